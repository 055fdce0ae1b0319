/- Texts packed: TlW, TlX, GrW. -/
import Derived.Test.YtkhegeobdcemkaaGreatDoorSc02
import Derived.Test.YtkhegeobdcemkaaGreatDoorSc03
import Derived.Test.YtkhegeobdcemkaaGreatDoorSc41
import Derived.Test.YtkhegeobdcemkaaGreatDoorSc43
import Derived.Test.YtkhegeobdcemkaaGreatDoorSc16
import Derived.Test.YtkhegeobdcemkaaGreatDoorSc20
/- script.Sets, walked. -/
namespace Go.Proofs.YtkhegeobdcemkaaGreatDoor
set_option linter.unusedVariables false
open Go.RowKit Go.Sort

def setsL (l : List Scene) : List ByteArray := l.map (·.set)
theorem setsL_len (l : List (Scene × Value)) : (setsL (l.map (·.1))).length = l.length := by simp [setsL]
theorem setsL_get (l : List (Scene × Value)) (k : Nat) (h : k < (setsL (l.map (·.1))).length) (h2 : k < l.length) : (setsL (l.map (·.1)))[k] = (l[k]'h2).1.set := by simp [setsL]
def SeP (x : Script) (w : World) (e : Ending) (w' : World) : Prop := ∃ v q, e = .returned (.tuple #[v, .int .i64 q]) ∧ Below w.heap.size w w' ∧ chkE x = q ∧ ((¬ q = 0 ∧ v = .slice none 0 0) ∨ (q = 0 ∧ Own tyR w' w.heap.size w.heap.size 45 (talS (setsL x.scenes)) v))
set_option maxRecDepth 100000 in
set_option maxHeartbeats 1600000 in
theorem SetsP_c {F : Nat → Prop} (t : ByteArray) (ls : List (Scene × Value)) (v : Value) (w : World) (h : ScL w F t ls v) (hl : ls.length ≤ 1000) (hm : MaxLaid w) :
    Calls Tryz.prog 10 #[.agg #[.string t, v]] w (SeP ⟨t, ls.map (·.1)⟩ w) := by
  obtain ⟨i0, hi0, hz0, hz1, hz2⟩ := info_parts (show (Tryz.prog.info? 45).map (fun i => (i.zero, i.size, i.bytes)) = some (some (.agg #[.string ⟨#[]⟩, .int .i64 0]), 2, 24) by kernel_rfl)
  obtain ⟨A, c, rfl, hlc, hcm⟩ := h.sli.form
  have HB := Lib.hid ((Below.refl w.heap.size w).alloc (Nat.le_refl _) (.cells #[.string t, .slice A ls.length c] 28))
  have h1 := h.below HB.out
  have HCK := Lib.hid (Check_c t ls (.slice A ls.length c) (w.alloc (.cells #[.string t, .slice A ls.length c] 28)) h1 (max_alloc hm _))
  have HH1 := Lib.hid h1
  have HY := Lib.hid (fun (W : World) (hb : Below (w.alloc (.cells #[.string t, .slice A ls.length c] 28)).heap.size (w.alloc (.cells #[.string t, .slice A ls.length c] 28)) W) => show W.cell? ⟨w.heap.size, 0, none⟩ = some (.string t) ∧ W.cell? ⟨w.heap.size, 1, none⟩ = some (.slice A ls.length c) by
    obtain ⟨y, _⟩ := str_cells ((hb.block w.heap.size (by simp)).trans (heap_alloc_new w _))
    exact ⟨y 0, y 1⟩)
  obtain ⟨L, hL⟩ : ∃ L, ls.length = L := ⟨_, rfl⟩
  have HL := Lib.hid hL
  rw [hL] at HB HCK HH1 HY hlc hl ⊢
  clear h h1 hm hL
  go_enter Tryz.func10, Tryz.ntmps10
  go_wp2_with fail
  refine HCK.out.mono ?_
  rintro e w2 ⟨rfl, hb2⟩
  obtain ⟨y0, y1⟩ := HY.out w2 hb2
  have hz2 : w.heap.size < w2.heap.size := by have := hb2.size; simp at this; omega
  have HH2 := Lib.hid (HH1.out.below hb2).sc2
  have HB2 := Lib.hid (HB.out.trans (hb2.mono HB.out.size))
  clear hb2 HCK HY HB HH1
  obtain ⟨ck, hck⟩ : ∃ ck, chkE ⟨t, ls.map (·.1)⟩ = ck := ⟨_, rfl⟩
  have HC := Lib.hid hck
  rw [hck]
  clear hck
  by_cases hc : ck = 0
  case neg =>
    have HNE := Lib.hid hc
    have hne : (ck != 0) = true := bne_iff_ne.2 hc
    clear hc
    go_wp2
    go_ret2
    exact ⟨_, ck, rfl, HB2.out, HC.out, .inl ⟨HNE.out, rfl⟩⟩
  subst hc
  have GM := Lib.hid ((BM.start (n := 2) (enc := fun x : Tly => [.string x.1, .int .i64 x.2]) (hn := fun _ => rfl) (e := 45) w2).newMap Value.string)
  have hmm := @run_makeMap Tryz.prog
  go_upto_region 6 with (fail)
  clear hmm
  generalize hW : w2.alloc (.map #[] 0) = w3 at *
  have y1' : w3.cell? ⟨w.heap.size, 1, none⟩ = some (.slice A L c) := by rw [← hW]; exact (World.cell?_alloc_lt w2 _ ⟨w.heap.size, 1, none⟩ hz2).trans y1
  clear y0 y1 hW
  have hMb2 : w2.heap.size ≤ w2.heap.size := Nat.le_refl _
  generalize hMb : w2.heap.size = Mb at GM ⊢
  clear hMb hMb2
  go_wp2
  go_loopw [5, 20] (fun v i wr => ∃ k : Nat, k ≤ L ∧ i = .int .i64 k ∧ Hid (BM tyR 45 w2 (talS ((setsL (ls.map (·.1))).take k)) v [(Mb, mapP Value.string (idxM (nmsS ((setsL (ls.map (·.1))).take k))))] wr)) (fun _ i _ => L - (intOf i).toNat)
  case atStart => exact ⟨0, Nat.zero_le _, rfl, GM⟩
  case round =>
    clear GM
    obtain ⟨k, hk, rfl, HG⟩ := hrel
    by_cases hlt : k < L
    · have hk2 : k < ls.length := by rw [HL.out]; exact hlt
      obtain ⟨b, off, rfl, hfb, c0, c1, c2, c3, c4⟩ := scAt (HH2.out.below HG.out.bel).sli k hk2
      have hpa := HH2.out.par _ (List.getElem_mem hk2)
      obtain ⟨A4, cc4, h4, _, _⟩ := hpa.form
      have hkm : k < (setsL (ls.map (·.1))).length := by rw [setsL, List.length_map, List.length_map]; exact hk2
      have hgm : (setsL (ls.map (·.1)))[k]'hkm = (ls[k]'hk2).1.set := setsL_get ls k hkm hk2
      have hnx := List.take_succ_eq_append_getElem hkm
      rw [hgm] at hnx
      rw [h4] at c4
      have hbw : b < wr.heap.size := Nat.lt_of_lt_of_le (HH2.out.lt b hfb) HG.out.size
      have hpl : ((setsL (ls.map (·.1))).take k).length = k := by rw [List.length_take]; omega
      clear h4 hkm hgm hpa
      generalize (ls[k]'hk2).1 = x at *
      have HNX := Lib.hid hnx
      obtain ⟨pre, hpre⟩ : ∃ pre, (setsL (ls.map (·.1))).take k = pre := ⟨_, rfl⟩
      rw [hpre] at HG HNX hpl
      have G2 := HG.out.new #[.string x.no, .int .i64 x.place, .string x.set, .int .i64 x.time, .slice A4 x.paras.length cc4] 71
      have HMb := Lib.hid (HG.out.plt (b := Mb) (f := mapP Value.string (idxM (nmsS pre))) (by simp))
      clear hnx hpre hk2 HG
      go_upto_region 9 with (fail)
      generalize hW : wr.alloc (.cells #[.string x.no, .int .i64 x.place, .string x.set, .int .i64 x.time, .slice A4 x.paras.length cc4] 71) = w5 at *
      have hwX : wr.heap.size < w5.heap.size := (G2.plt (b := wr.heap.size) (List.mem_cons_self ..)).2
      have G3 := Lib.hid G2
      have HM5 := Lib.hid (G2.map (b := Mb) (mk := Value.string) (m := idxM (nmsS pre)) (by simp))
      have hXM : wr.heap.size ≠ Mb := by have := HMb.out.2; omega
      generalize wr.heap.size = X at *
      have HCL := Lib.hid (fun (W : World) l v P (hW : BM tyR 45 w2 l v P W) (hm : (X, cellsP #[.string x.no, .int .i64 x.place, .string x.set, .int .i64 x.time, .slice A4 x.paras.length cc4] 71) ∈ P) => show W.cell? ⟨X, 2, none⟩ = some (.string x.set) from (hW.cell hm).1 2)
      have d2 := HCL.out _ _ _ _ G3.out (List.mem_cons_self ..)
      clear c0 c1 c2 c3 c4 hW G2 y1'
      generalize x.set = s at *
      by_cases hs : s ∈ nmsS pre
      · obtain ⟨n, hn, hsn⟩ := List.mem_iff_getElem.1 hs
        have HLK := Lib.hid (show lk (idxM (nmsS pre)) s = some (.int .i64 (n : Int)) by rw [← hsn]; exact idxM_yes (nmsS_nodup pre) hn)
        have hnt : n < (talS pre).length := by rw [talS_len]; exact hn
        obtain ⟨g, cap, rfl, hg1, hg2⟩ := Own.some_ (enc := fun x : Tly => [.string x.1, .int .i64 x.2]) (hn := fun _ => rfl) G3.out.own (by omega)
        have hca := (Own.cellAt (enc := fun x : Tly => [.string x.1, .int .i64 x.2]) (hn := fun _ => rfl) G3.out.own n hnt 1 (by decide))
        have hbd := talS_bd pre _ (List.getElem_mem hnt)
        have HME := Lib.hid (show (talS pre).modify n (fun y => (y.1, (talS pre)[n].2 + 1)) = talS ((setsL (ls.map (·.1))).take (k + 1)) ∧ nmsS ((setsL (ls.map (·.1))).take (k + 1)) = nmsS pre by
          rw [HNX.out, ← talS_old hn hsn, nmsS_old hs]
          exact ⟨modAt hnt rfl, rfl⟩)
        have HMO := Lib.hid (G3.out.modify (fun y => (y.1, (talS pre)[n].2 + 1)) n 1 (.int .i64 ((talS pre)[n].2 + 1)) (fun x => rfl) (by decide) hnt)
        generalize (talS pre)[n].2 = z at *
        have e3 : w5.cell? ⟨g, n * 2 + 1, none⟩ = some (.int .i64 z) := hca.1
        have f3 := hca.2
        have ew : IntKind.i64.wrap (z + 1) = z + 1 := IntWalk.i64_in _ (by omega)
        have hnl : (n : Int) < ((talS pre).length : Int) := by omega
        clear hs hsn hca hbd hnt hn HNX
        have G4 := Lib.hid (G3.out.less (Q := []) (by simp))
        clear G3
        generalize (talS pre).length = m at *
        go_wp2_with (first | (at_lookup; refine wpList_lookup_plain _ rfl _ _ 76 true rfl 9 3 keyS2 Tryz.underlying76 (.int .i64 0) (zeroI _) Mb (idxM (nmsS pre)) rfl HM5.out s rfl ?_; rw [HLK.out]; simp only [if_true, Option.getD_some, Option.isSome_some]) | fail)
        go_roundw
        case rel => exact ⟨k + 1, by omega, intNum, Lib.hid (by rw [HME.out.2, ← HME.out.1]; exact HMO.out.less (by simp))⟩
        case measure => simp [intOf]; omega
      · have HLK := Lib.hid (show lk (idxM (nmsS pre)) s = none from idxM_no hs)
        have HMU := Lib.hid (show up (idxM (nmsS pre)) s (.int .i64 ((talS pre).length : Int)) = idxM (nmsS ((setsL (ls.map (·.1))).take (k + 1))) by rw [talS_len, HNX.out, nmsS_new hs]; exact idxM_up hs)
        have HME := Lib.hid (show (talS pre ++ [(s, 0)]).modify (talS pre).length (fun y => (y.1, 1)) = talS ((setsL (ls.map (·.1))).take (k + 1)) by
          rw [HNX.out, ← talS_new hs, talS_len]
          refine modAt (by rw [List.length_append, talS_len]; simp) ?_
          rw [List.getElem_append_right (by rw [talS_len]; exact Nat.le_refl _)]
          simp [talS_len])
        have hlb : (talS pre).length ≤ 1000 := by rw [talS_len]; have := nmsS_len pre; omega
        obtain ⟨lp, hlp⟩ : ∃ lp, talS pre = lp := ⟨_, rfl⟩
        rw [hlp] at HMU HME hlb G3
        obtain ⟨m, hm⟩ : ∃ m, lp.length = m := ⟨_, rfl⟩
        have HL1 := Lib.hid hm
        rw [hm] at HMU HME hlb
        obtain ⟨A5, c5, rfl, _, _⟩ := (G3.out.own.sliF (F := fun _ => True) (enc := fun x : Tly => [.string x.1, .int .i64 x.2]) (hn := fun _ => rfl) (fun _ _ => trivial)).form
        rw [hm] at G3 ⊢
        clear hs hlp HNX hm
        go_upto_region 12 with (first
          | (at_lookup; refine wpList_lookup_plain _ rfl _ _ 76 true rfl 9 3 keyS2 Tryz.underlying76 (.int .i64 0) (zeroI _) Mb (idxM (nmsS pre)) rfl HM5.out s rfl ?_; rw [HLK.out]; simp only [if_true, Option.getD_none, Option.isSome_none]))
        generalize Value.slice A5 m c5 = va at *
        go_upto_region 13 with (first
          | (at_mapUpdate; refine wpList_update_plain _ rfl _ _ _ 76 rfl 9 3 keyS2 Tryz.underlying76 Mb (idxM (nmsS pre)) rfl HM5.out s rfl (.int .i64 (m : Int)) rfl ?_; intro w6 hm6 hg6; rw [HMU.out] at hm6; have hG6 := (G3.out.less (Q := [(Mb, mapP Value.string (idxM (nmsS pre))), (X, cellsP #[.string x.no, .int .i64 x.place, .string s, .int .i64 x.time, .slice A4 x.paras.length cc4] 71)]) (by simp)).put (by simpa using hXM) hm6 hg6; have d6 := HCL.out _ _ _ _ hG6 (by simp); have HG6 := Lib.hid hG6; clear hG6 hm6 hg6))
        go_upto_region 14 with (at_builtin; (refine wpList_pushB (R := tyR) rfl _ _ _ rfl w2.heap.size w2.heap.size 45 i0 _ 24 Tryz.underlying34 hi0 hz0 (by assumption) (by assumption) rfl (by decide) _ va lp rfl (HG6.out.own.alloc _) (s, 0) [.string s, .int .i64 0] rfl (oneC rfl) w6.heap.size _ _ (heap_alloc_new w6 _) rfl (by rw [HL1.out]; simp [maxLen]; omega) (by rw [HL1.out]; omega) (by have := HG6.out.bel.size; simp; omega) ?_); rw [HL1.out]; intro g cap w7 hown7 hg7 hat7 hlt7)
        have G7 := Lib.hid ((HG6.out.alloc (.cells #[.string s, .int .i64 0] 45)).more hown7 hg7 rfl hat7)
        have hca := (Own.cellAt (enc := fun x : Tly => [.string x.1, .int .i64 x.2]) (hn := fun _ => rfl) hown7 m (by rw [List.length_append, HL1.out]; simp) 1 (by decide))
        have hge : (lp ++ [(s, (0 : Int))])[m]'(by rw [List.length_append, HL1.out]; simp) = (s, 0) := by rw [List.getElem_append_right (by rw [HL1.out]; exact Nat.le_refl _)]; simp
        rw [hge] at hca
        have e7 : w7.cell? ⟨g, m * 2 + 1, none⟩ = some (.int .i64 0) := hca.1
        have f7 := hca.2
        have HMO := Lib.hid (G7.out.modify (fun y => (y.1, 1)) m 1 (.int .i64 1) (fun x => rfl) (by decide) (by rw [List.length_append, HL1.out]; simp))
        rw [HME.out] at HMO
        have hmm : (m : Int) < (m : Int) + 1 := by omega
        clear hca hge hown7 hg7 hat7
        go_wp2
        go_roundw
        case rel => exact ⟨k + 1, by omega, intNum, Lib.hid (HMO.out.less (by simp))⟩
        case measure => simp [intOf]; omega
    · have HE := Lib.hid (show (setsL (ls.map (·.1))).take k = setsL (ls.map (·.1)) from List.take_of_length_le (by rw [setsL, List.length_map, List.length_map, HL.out]; omega))
      go_wp2
      go_ret2
      exact ⟨_, 0, rfl, HB2.out.trans (HG.out.bel.mono HB2.out.size), HC.out, .inr ⟨rfl, by have h := HG.out.own; rw [HE.out] at h; exact h.less (enc := fun x : Tly => [.string x.1, .int .i64 x.2]) (hn := fun _ => rfl) HB2.out.size⟩⟩
end Go.Proofs.YtkhegeobdcemkaaGreatDoor

/- R.SetsOf, walked. -/
namespace Go.Proofs.YtkhegeobdcemkaaGreatDoor
set_option linter.unusedVariables false
open Go.RowKit Go.Sort

def SoP (l : List Scene) (w : World) (e : Ending) (w' : World) : Prop := ∃ v, e = .returned v ∧ Below w.heap.size w w' ∧ Own tyR w' w.heap.size w.heap.size 45 (talS (setsL l)) v
set_option maxRecDepth 100000 in
set_option maxHeartbeats 1600000 in
theorem SetsOf_c {F : Nat → Prop} (t : ByteArray) (ls : List (Scene × Value)) (v : Value) (w : World) (h : Sc2 w F ls v) (hl : ls.length ≤ 1000) :
    Calls Tryz.prog 16 #[.agg #[.string t, v]] w (SoP (ls.map (·.1)) w) := by
  obtain ⟨i0, hi0, hz0, hz1, hz2⟩ := info_parts (show (Tryz.prog.info? 45).map (fun i => (i.zero, i.size, i.bytes)) = some (some (.agg #[.string ⟨#[]⟩, .int .i64 0]), 2, 24) by kernel_rfl)
  obtain ⟨A, c, rfl, hlc, hcm⟩ := h.sli.form
  have HH := Lib.hid h
  obtain ⟨L, hL⟩ : ∃ L, ls.length = L := ⟨_, rfl⟩
  have HL := Lib.hid hL
  rw [hL] at HH hlc hl ⊢
  clear h hL
  obtain ⟨ss, hss⟩ : ∃ ss, setsL (ls.map (·.1)) = ss := ⟨_, rfl⟩
  have HSS := Lib.hid hss
  have hsl : ss.length = L := by rw [← hss, setsL_len]; exact HL.out
  have HSG := Lib.hid (show ∀ k (h : k < ls.length) (h2 : k < ss.length), ss[k] = (ls[k]'h).1.set from fun k h h2 => by subst hss; exact setsL_get ls k h2 h)
  clear hss
  have G1 := Lib.hid ((BM.start (n := 2) (enc := fun x : Tly => [.string x.1, .int .i64 x.2]) (hn := fun _ => rfl) (e := 45) w).new #[.string t, .slice A L c] 28)
  go_enter Tryz.func16, Tryz.ntmps16
  go_upto_region 1 with (fail)
  generalize hW : w.alloc (.cells #[.string t, .slice A L c] 28) = w1 at *
  obtain ⟨gx, _⟩ := G1.out.cell (b := w.heap.size) (cs := #[.string t, .slice A L c]) (T := 28) (by simp)
  have y1 : w1.cell? ⟨w.heap.size, 1, none⟩ = some (.slice A L c) := gx 1
  clear gx hW
  go_wp2
  go_loopw [3, 13] (fun v i wr => ∃ k : Nat, k ≤ L ∧ i = .int .i64 k ∧ Hid (BM tyR 45 w (tlyS ss (nmsS (ss.take k))) v [(w.heap.size, cellsP #[.string t, .slice A L c] 28)] wr)) (fun _ i _ => L - (intOf i).toNat)
  case atStart => exact ⟨0, Nat.zero_le _, rfl, G1⟩
  case round =>
    clear G1 y1
    obtain ⟨k, hk, rfl, HG⟩ := hrel
    by_cases hlt : k < L
    · have hk2 : k < ls.length := by rw [HL.out]; exact hlt
      have hk3 : k < ss.length := by omega
      obtain ⟨b, off, rfl, hfb, c0, c1, c2, c3, c4⟩ := scAt (HH.out.below HG.out.bel).sli k hk2
      have hpa := HH.out.par _ (List.getElem_mem hk2)
      obtain ⟨A4, cc4, h4, _, _⟩ := hpa.form
      have hgm : ss[k] = (ls[k]'hk2).1.set := HSG.out k hk2 hk3
      have hnx := List.take_succ_eq_append_getElem hk3
      rw [hgm] at hnx
      rw [h4] at c4
      have hbw : b < wr.heap.size := Nat.lt_of_lt_of_le (HH.out.lt b hfb) HG.out.size
      clear h4 hpa hgm
      generalize (ls[k]'hk2).1 = x at *
      have HNX := Lib.hid hnx
      have G2 := Lib.hid (HG.out.new #[.string x.no, .int .i64 x.place, .string x.set, .int .i64 x.time, .slice A4 x.paras.length cc4] 71)
      obtain ⟨gx, _⟩ := HG.out.cell (b := w.heap.size) (cs := #[.string t, .slice (some ⟨b, off, none⟩) L c]) (T := 28) (by simp)
      have y1 : wr.cell? ⟨w.heap.size, 1, none⟩ = some (.slice (some ⟨b, off, none⟩) L c) := gx 1
      have hwX := HG.out.size
      have hwX2 := (HG.out.plt (b := w.heap.size) (f := cellsP #[.string t, .slice (some ⟨b, off, none⟩) L c] 28) (by simp)).2
      clear hnx hk2 hk3 HG gx
      go_upto_region 5 with (fail)
      generalize hW : wr.alloc (.cells #[.string x.no, .int .i64 x.place, .string x.set, .int .i64 x.time, .slice A4 x.paras.length cc4] 71) = w5 at *
      generalize wr.heap.size = X at *
      have HCL := Lib.hid (fun (W : World) l v P (hW : BM tyR 45 w l v P W) (hm : (X, cellsP #[.string x.no, .int .i64 x.place, .string x.set, .int .i64 x.time, .slice A4 x.paras.length cc4] 71) ∈ P) (hm2 : (w.heap.size, cellsP #[.string t, .slice (some ⟨b, off, none⟩) L c] 28) ∈ P) => show W.cell? ⟨X, 2, none⟩ = some (.string x.set) ∧ W.cell? ⟨w.heap.size, 1, none⟩ = some (.slice (some ⟨b, off, none⟩) L c) from ⟨(hW.cell hm).1 2, (hW.cell hm2).1 1⟩)
      obtain ⟨d2, y1⟩ := HCL.out _ _ _ _ G2.out (by simp) (by simp)
      clear c0 c1 c2 c3 c4 hW
      obtain ⟨s, hs⟩ : ∃ s, x.set = s := ⟨_, rfl⟩
      rw [hs] at HCL HNX d2 G2
      have HXS := Lib.hid hs
      clear hs
      go_wp2
      go_loopw [6, 7, 21] (fun m f i wr => ∃ j : Nat, j ≤ L ∧ i = .int .i64 j ∧ m = .int .i64 (cntS (ss.take j) s) ∧ f = .bool (firB ss s k j) ∧ Hid (BM tyR 45 w (tlyS ss (nmsS (ss.take k))) u3 [(X, cellsP #[.string x.no, .int .i64 x.place, .string s, .int .i64 x.time, .slice A4 x.paras.length cc4] 71), (w.heap.size, cellsP #[.string t, .slice (some ⟨b, off, none⟩) L c] 28)] wr)) (fun _ _ i _ => L - (intOf i).toNat)
      case atStart => exact ⟨0, Nat.zero_le _, rfl, rfl, by simp [firB], G2⟩
      case round =>
        clear G2 y1 d2
        obtain ⟨j, hj, rfl, rfl, rfl, HG⟩ := hrel
        by_cases hlj : j < L
        · have hj2 : j < ls.length := by rw [HL.out]; exact hlj
          have hj3 : j < ss.length := by omega
          obtain ⟨b', off', hbo, hfb', c0, c1, c2, c3, c4⟩ := scAt (HH.out.below HG.out.bel).sli j hj2
          obtain ⟨rfl, rfl⟩ : b' = b ∧ off' = off := by injection hbo with h; injection h with h1 h2; exact ⟨h1.symm, h2.symm⟩
          have hpa := HH.out.par _ (List.getElem_mem hj2)
          obtain ⟨A6, cc6, h6, _, _⟩ := hpa.form
          have hgm : ss[j] = (ls[j]'hj2).1.set := HSG.out j hj2 hj3
          have hfn := firB_next (l := ss) (s := s) (i := k) hj3
          have hcn := cntS_next hj3 s
          rw [hgm] at hfn hcn
          rw [h6] at c4
          clear h6 hpa hgm hbo
          generalize (ls[j]'hj2).1 = y at *
          have G4 := Lib.hid (HG.out.new #[.string y.no, .int .i64 y.place, .string y.set, .int .i64 y.time, .slice A6 y.paras.length cc6] 71)
          have hz4 := (HG.out.plt (b := X) (f := cellsP #[.string x.no, .int .i64 x.place, .string s, .int .i64 x.time, .slice A4 x.paras.length cc4] 71) (by simp)).2
          have hb4 : b' < wr.heap.size := by omega
          clear hj2 hj3 HG
          go_upto_region 10 with (fail)
          generalize hW : wr.alloc (.cells #[.string y.no, .int .i64 y.place, .string y.set, .int .i64 y.time, .slice A6 y.paras.length cc6] 71) = w7 at *
          obtain ⟨e2', _⟩ := G4.out.cell (b := wr.heap.size) (cs := #[.string y.no, .int .i64 y.place, .string y.set, .int .i64 y.time, .slice A6 y.paras.length cc6]) (T := 71) (by simp)
          have e2 : w7.cell? ⟨wr.heap.size, 2, none⟩ = some (.string y.set) := e2' 2
          obtain ⟨d2, y1⟩ := HCL.out _ _ _ _ G4.out (by simp) (by simp)
          have G5 := Lib.hid (G4.out.less (Q := [(X, cellsP #[.string x.no, .int .i64 x.place, .string s, .int .i64 x.time, .slice A4 x.paras.length cc4] 71), (w.heap.size, cellsP #[.string t, .slice (some ⟨b', off', none⟩) L c] 28)]) (by simp))
          have hcb := cntS_bd (ss.take j) s
          have hcl : (ss.take j).length ≤ 1000 := by rw [List.length_take]; omega
          have ew : IntKind.i64.wrap (cntS (ss.take j) s + 1) = cntS (ss.take j) s + 1 := IntWalk.i64_in _ (by omega)
          clear c0 c1 c2 c3 c4 hW G4 e2' hcl hcb
          by_cases hq : y.set = s
          · have hqe : (y.set.toList == s.toList) = true := (beqS _ _).trans (decide_eq_true hq)
            rw [if_pos hq] at hfn hcn
            have HFN := Lib.hid hfn
            have HCN := Lib.hid hcn
            clear hq hfn hcn
            cases hf : firB ss s k j with
            | false =>
              rw [hf] at HFN
              clear hf
              go_wp2
              go_roundw
              case rel => exact ⟨j + 1, by omega, intNum, by rw [HCN.out], by rw [HFN.out]; rfl, G5⟩
              case measure => simp [intOf]; omega
            | true =>
              rw [hf] at HFN
              clear hf
              by_cases hkj : k ≤ j
              · have hge : (k : Int) ≤ (j : Int) := by omega
                rw [decide_eq_true hkj] at HFN
                clear hkj
                go_wp2
                go_roundw
                case rel => exact ⟨j + 1, by omega, intNum, by rw [HCN.out], by rw [HFN.out]; rfl, G5⟩
                case measure => simp [intOf]; omega
              · have hge : ¬ (k : Int) ≤ (j : Int) := by omega
                rw [decide_eq_false hkj] at HFN
                clear hkj
                go_wp2
                go_roundw
                case rel => exact ⟨j + 1, by omega, intNum, by rw [HCN.out], by rw [HFN.out]; rfl, G5⟩
                case measure => simp [intOf]; omega
          · have hqe : (y.set.toList == s.toList) = false := (beqS _ _).trans (decide_eq_false hq)
            rw [if_neg hq] at hfn hcn
            have HFN := Lib.hid hfn
            have HCN := Lib.hid hcn
            clear hq hfn hcn ew
            go_wp2
            go_roundw
            case rel => exact ⟨j + 1, by omega, intNum, by rw [HCN.out, Int.add_zero], by rw [HFN.out], G5⟩
            case measure => simp [intOf]; omega
        · have hjL : j = ss.length := by omega
          have hfe := firB_end (l := ss) (s := s) (i := k) (by omega)
          have HG2 := Lib.hid (HG.out.less (Q := [(w.heap.size, cellsP #[.string t, .slice (some ⟨b, off, none⟩) L c] 28)]) (by simp))
          obtain ⟨d2, y1⟩ := HCL.out _ _ _ _ HG.out (by simp) (by simp)
          have hta : ss.take j = ss := List.take_of_length_le (by omega)
          rw [hta, hjL, hfe]
          clear HG hjL hta hfe
          by_cases hs : s ∈ nmsS (ss.take k)
          · have HN := Lib.hid (show nmsS (ss.take (k + 1)) = nmsS (ss.take k) by rw [HNX.out]; exact nmsS_old hs)
            rw [decide_eq_false (fun h => h hs)]
            clear hs
            go_wp2
            go_roundw
            case rel => exact ⟨k + 1, by omega, intNum, by rw [HN.out]; exact HG2⟩
            case measure => simp [intOf]; omega
          · have HN := Lib.hid (show tlyS ss (nmsS (ss.take (k + 1))) = tlyS ss (nmsS (ss.take k)) ++ [(s, cntS ss s)] by rw [HNX.out]; rw [nmsS_new hs]; exact tlyS_snoc _ _ _)
            have hlen : (tlyS ss (nmsS (ss.take k))).length ≤ 1000 := by
              unfold tlyS
              rw [List.length_map]
              have := nmsS_len (ss.take k)
              rw [List.length_take] at this
              omega
            rw [decide_eq_true hs]
            clear hs
            generalize tlyS ss (nmsS (ss.take k)) = lp at *
            generalize cntS ss s = n at *
            have hzz := HG2.out.size
            go_wp2_with (at_builtin; (refine wpList_pushB (R := tyR) rfl _ _ _ rfl w.heap.size w.heap.size 45 i0 _ 24 Tryz.underlying34 hi0 hz0 (by assumption) (by assumption) rfl (by decide) _ u3 lp rfl (HG2.out.own.alloc _) (s, n) [.string s, .int .i64 n] rfl (oneC rfl) wr.heap.size _ _ (heap_alloc_new wr _) rfl (by simp [maxLen]; omega) (by omega) (by simp; omega) ?_); intro g cap w7 hown7 hg7 hat7 hlt7)
            go_roundw
            case rel => exact ⟨k + 1, by omega, intNum, by rw [HN.out]; exact Lib.hid ((HG2.out.alloc _).more hown7 hg7 rfl hat7)⟩
            case measure => simp [intOf]; omega
    · have HE := Lib.hid (show ss.take k = ss from List.take_of_length_le (by omega))
      go_wp2
      go_ret
      exact ⟨_, rfl, HG.out.bel, by have h := HG.out.own; rw [HE.out] at h; unfold talS; rw [HSS.out]; exact h⟩
end Go.Proofs.YtkhegeobdcemkaaGreatDoor

/- R.groupsOf, walked. -/
namespace Go.Proofs.YtkhegeobdcemkaaGreatDoor
set_option linter.unusedVariables false
open Go.RowKit Go.Sort

abbrev GpG (w : World) (l : List Grp) (v : Value) (P : List Pb) (wx : World) : Prop := BM gpR 88 w l v P wx
set_option maxRecDepth 100000 in
set_option maxHeartbeats 1600000 in
theorem groupsOf_c {F : Nat → Prop} (x : Scene) (v : Value) (w : World) (h : Sli paraR w F x.paras v) (hF : ∀ b, F b → b < w.heap.size) (hl : x.paras.length ≤ 100000) (hr : RtP x.paras) :
    Calls Tryz.prog 47 #[.agg #[.string x.no, .int .i64 x.place, .string x.set, .int .i64 x.time, v]] w fun e w' => ∃ v', e = .returned v' ∧ Below w.heap.size w w' ∧ Own gpR w' w.heap.size w.heap.size 88 (grpS x.paras) v' := by
  obtain ⟨i0, hi0, hz0, hz1, hz2⟩ := info_parts (show (Tryz.prog.info? 88).map (fun i => (i.zero, i.size, i.bytes)) = some (some (.agg #[.int .i64 0, .int .i64 0, .string ⟨#[]⟩]), 3, 32) by kernel_rfl)
  obtain ⟨A, c, rfl, hlc, hcm⟩ := h.form
  have HH := Lib.hid h
  have HF := Lib.hid hF
  have HCH := Lib.hid (fun k hk => grpN_ch hr k hk)
  obtain ⟨M, hM⟩ : ∃ M, x.paras.length = M := ⟨_, rfl⟩
  have HM := Lib.hid hM
  rw [hM] at HH hlc hl ⊢
  have HR := Lib.hid hr
  clear h hF hM hr
  have G1 := Lib.hid (show GpG w (grpN x.paras 0) (.slice none 0 0) [(w.heap.size, cellsP #[.string x.no, .int .i64 x.place, .string x.set, .int .i64 x.time, .slice A M c] 71)] (w.alloc (.cells #[.string x.no, .int .i64 x.place, .string x.set, .int .i64 x.time, .slice A M c] 71)) from (BM.start (n := 3) (enc := fun x : Grp => [.int .i64 (x.1 : Int), .int .i64 (x.2.1 : Int), .string x.2.2]) (hn := fun _ => rfl) (e := 88) w).new _ _)
  go_enter Tryz.func47, Tryz.ntmps47
  go_upto_region 1 with (fail)
  generalize hW : w.alloc (.cells #[.string x.no, .int .i64 x.place, .string x.set, .int .i64 x.time, .slice A M c] 71) = w1 at *
  obtain ⟨gx, _⟩ := G1.out.cell (b := w.heap.size) (cs := #[.string x.no, .int .i64 x.place, .string x.set, .int .i64 x.time, .slice A M c]) (T := 71) (by simp)
  have y4 : w1.cell? ⟨w.heap.size, 4, none⟩ = some (.slice A M c) := gx 4
  have G2 := Lib.hid (G1.out.less (Q := []) (by simp))
  clear gx hW G1
  go_wp2
  go_loopw [3, 9] (fun v i wr => ∃ k : Nat, k ≤ M ∧ i = .int .i64 k ∧ Hid (GpG w (grpN x.paras k) v [] wr)) (fun _ i _ => M - (intOf i).toNat)
  case atStart => exact ⟨0, Nat.zero_le _, rfl, G2⟩
  case round =>
    clear G2 y4
    obtain ⟨k, hk, rfl, HG⟩ := hrel
    by_cases hlt : k < M
    · have hk2 : k < x.paras.length := by rw [HM.out]; exact hlt
      obtain ⟨b, off, rfl, hfb, p0, p1⟩ := para_at (HH.out.below HG.out.bel HF.out) k hk2
      have hbw : b < wr.heap.size := by have := HF.out b hfb; have := HG.out.size; omega
      have hgl := (HCH.out k (by omega)).len
      have hpos := (HCH.out k (by omega)).pos
      have HCU := Lib.hid (fun h => grpN_cue hk2 h)
      have HIN := Lib.hid (fun h => grpN_in hk2 h)
      have HOU := Lib.hid (fun h => grpN_out hk2 h)
      have HBE := Lib.hid (fun (h : x.paras[k].kind = 3 ∨ x.paras[k].kind = 4) => show 0 < k by
        obtain ⟨j, e, _⟩ := HR.out.behind k hk2 h
        omega)
      generalize x.paras[k]'hk2 = p at *
      generalize grpN x.paras k = gs at *
      have G4 := Lib.hid (HG.out.new #[.int .i64 p.kind, .string p.text] 78)
      have hzz := HG.out.size
      clear hk2 HG
      go_upto_region 5 with (fail)
      generalize hW : wr.alloc (.cells #[.int .i64 p.kind, .string p.text] 78) = w5 at *
      obtain ⟨gx, _⟩ := G4.out.cell (b := wr.heap.size) (cs := #[.int .i64 p.kind, .string p.text]) (T := 78) (by simp)
      have d0 : w5.cell? ⟨wr.heap.size, 0, none⟩ = some (.int .i64 p.kind) := gx 0
      have d1 : w5.cell? ⟨wr.heap.size, 1, none⟩ = some (.string p.text) := gx 1
      have G5 := Lib.hid (G4.out.less (Q := []) (by simp))
      have hzw : w.heap.size ≤ w5.heap.size := G5.out.size
      have ew : IntKind.i64.wrap ((k : Int) + 1) = (k : Int) + 1 := IntWalk.i64_in _ (by omega)
      have HCS := fun (s : ByteArray) => show ([.int .i64 (k : Int), .int .i64 ((k : Int) + 1), .string s] : List Value) = [.int .i64 (k : Int), .int .i64 ((k + 1 : Nat) : Int), .string s] by rw [Int.natCast_add]; rfl
      clear gx hW p0 p1 G4
      by_cases h2 : p.kind = 2
      · have e2 : (p.kind == 2) = true := beq_iff_eq.2 h2
        have HN := Lib.hid (HCU.out h2)
        clear h2 HCU HIN HOU HBE
        go_wp2_with (at_builtin; (refine wpList_pushB (R := gpR) rfl _ _ _ rfl w.heap.size w.heap.size 88 i0 _ 32 Tryz.underlying85 hi0 hz0 (by assumption) (by assumption) rfl (by decide) _ u3 gs rfl (G5.out.own.alloc _) (k, k + 1, p.text) [.int .i64 (k : Int), .int .i64 ((k : Int) + 1), .string p.text] (HCS _) (oneC rfl) w5.heap.size _ _ (heap_alloc_new w5 _) rfl (by simp [maxLen]; omega) (by omega) (by simp; omega) ?_); intro g cap w7 hown7 hg7 hat7 hlt7)
        go_roundw
        case rel => exact ⟨k + 1, by omega, intNum, by rw [HN.out]; exact Lib.hid ((G5.out.alloc _).more hown7 hg7 rfl hat7)⟩
        case measure => simp [intOf]; omega
      have e2 : (p.kind == 2) = false := beq_eq_false_iff_ne.2 h2
      by_cases h34 : p.kind = 3 ∨ p.kind = 4
      · have HN := Lib.hid (HIN.out h34)
        have hp0 := hpos (HBE.out h34)
        obtain ⟨g, cap, rfl, hg1, hg2⟩ := Own.some_ (enc := fun x : Grp => [.int .i64 (x.1 : Int), .int .i64 (x.2.1 : Int), .string x.2.2]) (hn := fun _ => rfl) G5.out.own hp0
        have hca := Own.cellAt (enc := fun x : Grp => [.int .i64 (x.1 : Int), .int .i64 (x.2.1 : Int), .string x.2.2]) (hn := fun _ => rfl) G5.out.own (gs.length - 1) (by omega) 1 (by decide)
        have G6 := Lib.hid (BM.modify (enc := fun x : Grp => [.int .i64 (x.1 : Int), .int .i64 (x.2.1 : Int), .string x.2.2]) (hn := fun _ => rfl) G5.out (fun g => (g.1, k + 1, g.2.2)) (gs.length - 1) 1 (.int .i64 ((k : Int) + 1)) (fun _ => rfl) (by decide) (by omega))
        obtain ⟨u, hu⟩ : ∃ u, w5.cell? ⟨g, (gs.length - 1) * 3 + 1, none⟩ = some u := ⟨_, hca.1⟩
        have fu := hca.2
        have ew1 : IntKind.i64.wrap ((gs.length : Int) - 1) = (gs.length : Int) - 1 := IntWalk.i64_in _ (by omega)
        have i1 : (0 : Int) ≤ (gs.length : Int) - 1 := by omega
        have i2 : (gs.length : Int) - 1 < (gs.length : Int) := by omega
        have i3 : ((gs.length : Int) - 1).toNat = gs.length - 1 := by omega
        clear HCU HIN HOU HBE hca G5 hpos h2
        generalize gs.length = m at *
        by_cases h3 : p.kind = 3
        · have e3 : (p.kind == 3) = true := beq_iff_eq.2 h3
          clear h3 h34
          go_wp2
          go_roundw
          case rel => exact ⟨k + 1, by omega, intNum, by rw [HN.out]; exact G6⟩
          case measure => simp [intOf]; omega
        · have e3 : (p.kind == 3) = false := beq_eq_false_iff_ne.2 h3
          have e4 : (p.kind == 4) = true := beq_iff_eq.2 (h34.resolve_left h3)
          clear h3 h34
          go_wp2
          go_roundw
          case rel => exact ⟨k + 1, by omega, intNum, by rw [HN.out]; exact G6⟩
          case measure => simp [intOf]; omega
      · have e3 : (p.kind == 3) = false := beq_eq_false_iff_ne.2 (fun h => h34 (.inl h))
        have e4 : (p.kind == 4) = false := beq_eq_false_iff_ne.2 (fun h => h34 (.inr h))
        have HN := Lib.hid (HOU.out ⟨h2, fun h => h34 (.inl h), fun h => h34 (.inr h)⟩)
        clear h2 h34 HCU HIN HOU HBE
        go_wp2_with (at_builtin; (refine wpList_pushB (R := gpR) rfl _ _ _ rfl w.heap.size w.heap.size 88 i0 _ 32 Tryz.underlying85 hi0 hz0 (by assumption) (by assumption) rfl (by decide) _ u3 gs rfl (G5.out.own.alloc _) (k, k + 1, ⟨#[]⟩) [.int .i64 (k : Int), .int .i64 ((k : Int) + 1), .string ⟨#[]⟩] (HCS _) (oneC rfl) w5.heap.size _ _ (heap_alloc_new w5 _) rfl (by simp [maxLen]; omega) (by omega) (by simp; omega) ?_); intro g cap w7 hown7 hg7 hat7 hlt7)
        go_roundw
        case rel => exact ⟨k + 1, by omega, intNum, by rw [HN.out]; exact Lib.hid ((G5.out.alloc _).more hown7 hg7 rfl hat7)⟩
        case measure => simp [intOf]; omega
    · have HE := Lib.hid (show grpS x.paras = grpN x.paras k by unfold grpS; rw [HM.out, show M = k by omega])
      go_wp2
      go_ret
      exact ⟨_, rfl, HG.out.bel, by rw [HE.out]; exact HG.out.own⟩
end Go.Proofs.YtkhegeobdcemkaaGreatDoor

