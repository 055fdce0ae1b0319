/- Texts packed: LnW, LnX, RbT. -/
import Derived.Test.YtnemcnpilngblaaGreatDoorSc37
import Derived.Test.YtnemcnpilngblaaGreatDoorSc02
import Derived.Test.YtnemcnpilngblaaGreatDoorSc28
import Derived.Test.YtnemcnpilngblaaGreatDoorSc36
/- script.lines, walked. -/
namespace Go.Proofs.YtnemcnpilngblaaGreatDoor
set_option linter.unusedVariables false
open Go.RowKit Go.Sort

theorem Gap_c (b : Blk) (v1 v2 : Value) (w : World) : Calls Tryz.prog 179 #[.agg #[.int .i64 (b.kind : Int), v1, v2, .string b.name]] w fun e w' => e = .returned (.int .i64 (b.gap : Int)) ∧ Below w.heap.size w w' := by
  have HB := Lib.hid ((Below.refl w.heap.size w).alloc (Nat.le_refl _) (.cells #[.int .i64 (b.kind : Int), v1, v2, .string b.name] 227))
  by_cases h0 : b.kind = 0
  · have HG := Lib.hid (show b.gap = 2 from if_pos h0)
    have h1 : ((b.kind : Int) == 0) = true := by rw [beq_iff_eq]; omega
    clear h0
    go_enter Tryz.func179, Tryz.ntmps179
    go_wp2
    go_ret
    exact ⟨by rw [HG.out]; rfl, HB.out⟩
  · have HG := Lib.hid (show b.gap = 1 from if_neg h0)
    have h1 : ((b.kind : Int) == 0) = false := by rw [beq_eq_false_iff_ne]; omega
    clear h0
    go_enter Tryz.func179, Tryz.ntmps179
    go_wp2
    go_ret
    exact ⟨by rw [HG.out]; rfl, HB.out⟩
/-- The lines of a scene, handed back. -/
def LnsP (x : Scene) (w : World) (e : Ending) (w' : World) : Prop := ∃ v, e = .returned v ∧ Below w.heap.size w w' ∧ Own strR w' w.heap.size w.heap.size 9 (linesS x) v
abbrev StB (w : World) (l : List ByteArray) (v : Value) (P : List Pc) (wx : World) : Prop := BO strR 9 w l v P wx
/-- A block read from the list. -/
theorem BkN.at_ {w wx : World} {l : List BkT} {g0 M cap : Nat} {P : List Pc} (h : BkN w l (.slice (some ⟨g0, 0, none⟩) M cap) P wx) (j : Nat) (hj : j < l.length) :
    wx.cell? ⟨g0, j * 4, none⟩ = some (.int .i64 (l[j].1.kind : Int)) ∧ wx.cell? ⟨g0, j * 4 + 1, none⟩ = some l[j].2.1 ∧ wx.cell? ⟨g0, j * 4 + 2, none⟩ = some l[j].2.2 ∧ wx.cell? ⟨g0, j * 4 + 3, none⟩ = some (.string l[j].1.name) ∧
    Own strR wx w.heap.size w.heap.size 9 l[j].1.lines l[j].2.1 ∧ ∃ A n c, l[j].2.2 = .slice A n c := by
  have hr := (h.row false j l[j] (List.getElem?_eq_getElem hj)).1
  have hk := (h.row true j l[j] (List.getElem?_eq_getElem hj)).1
  exact ⟨(Own.cellAt h.bo.own j hj 0 (by decide)).1, (Own.cellAt h.bo.own j hj 1 (by decide)).1, (Own.cellAt h.bo.own j hj 2 (by decide)).1, (Own.cellAt h.bo.own j hj 3 (by decide)).1, Own.strs hr, own_form hk⟩
theorem linesB_take {l : List BkT} {j : Nat} (hj : j < l.length) : linesB ((l.take (j + 1)).map (·.1)) = linesB ((l.take j).map (·.1)) ++ List.replicate l[j].1.gap ⟨#[]⟩ ++ l[j].1.lines := by
  rw [List.take_succ_eq_append_getElem hj, List.map_append]
  exact linesB_snoc _ _
set_option maxRecDepth 100000 in
set_option maxHeartbeats 8000000 in
theorem lines_c {F : Nat → Prop} (x : Scene) (v : Value) (w : World) (hv : Sli paraR w F x.paras v) (hF : ∀ b, F b → b < w.heap.size) (hok : LnOk x) :
    Calls Tryz.prog 100 #[.agg #[.string x.no, .int .i64 x.place, .string x.set, .int .i64 x.time, v]] w (LnsP x w) := by
  obtain ⟨i0, hi0, hz0, hz1, hz2⟩ := info_parts (show (Tryz.prog.info? 9).map (fun i => (i.zero, i.size, i.bytes)) = some (some (.string ⟨#[]⟩), 1, 16) by kernel_rfl)
  obtain ⟨A, c, rfl, hlc, hcm⟩ := hv.form
  obtain ⟨L, hL⟩ : ∃ L, x.paras.length = L := ⟨_, rfl⟩
  have HBD := Lib.hid (And.intro (linesS_len hok) (blocks_len hok))
  rw [hL] at hv hlc ⊢
  have HB1 := Lib.hid ((Below.refl w.heap.size w).alloc (Nat.le_refl _) (.cells #[.string x.no, .int .i64 x.place, .string x.set, .int .i64 x.time, .slice A L c] 69))
  have HBL := Lib.hid (Blocks_c x (.slice A L c) (w.alloc (.cells #[.string x.no, .int .i64 x.place, .string x.set, .int .i64 x.time, .slice A L c] 69)) (hv.alloc (.cells #[.string x.no, .int .i64 x.place, .string x.set, .int .i64 x.time, .slice A L c] 69) hF) (fun b hb => by have := hF b hb; simp; omega) hok)
  clear hL hv hF hok
  go_enter Tryz.func100, Tryz.ntmps100
  go_wp2_with fail
  refine HBL.out.mono ?_
  rintro e w5 ⟨l, v5, rfl, hl5, hN5⟩
  have HB5 := Lib.hid (HB1.out.trans (hN5.bo.bel.mono (by simp)))
  have hpos : 0 < l.length := by
    have h := blkN_pos x x.paras.length
    unfold blkN at h
    rw [List.take_length] at h
    have h2 : (l.map (·.1)).length = (blocksS x).length := by rw [hl5]
    rw [List.length_map] at h2
    unfold blocksS at h2
    omega
  obtain ⟨g0, cap, rfl, _, _⟩ := Own.some_ hN5.bo.own hpos
  have hll : l.length ≤ 4001 := by
    have h := congrArg List.length hl5
    rw [List.length_map] at h
    rw [h]
    exact HBD.out.2
  obtain ⟨M, hM⟩ : ∃ M, l.length = M := ⟨_, rfl⟩
  have HM := Lib.hid hM
  rw [hM] at hN5 hll ⊢
  have HN5 := Lib.hid hN5
  have HLS := Lib.hid (show linesB (l.map (·.1)) = linesS x by rw [hl5]; rfl)
  have HLE := Lib.hid (show ∀ j, j ≤ l.length → (linesB ((l.take j).map (·.1))).length ≤ 60000000000 from fun j hj => by
    have h1 : linesB (l.map (·.1)) = linesB ((l.take j).map (·.1)) ++ linesB ((l.drop j).map (·.1)) := by
      unfold linesB
      rw [← List.flatMap_append, ← List.map_append, List.take_append_drop]
    have h2 := congrArg List.length h1
    rw [List.length_append] at h2
    have h3 : (linesB (l.map (·.1))).length ≤ 60000000000 := by rw [HLS.out]; exact HBD.out.1
    omega)
  have hz5 := HB5.out.size
  clear hM hl5 hN5 hpos HBL HB1
  go_wp2
  go_loopw [3, 9] (fun v i wr => ∃ j : Nat, j ≤ M ∧ i = .int .i64 j ∧ Hid (StB w5 (linesB ((l.take j).map (·.1))) v [] wr)) (fun _ i _ => M - (intOf i).toNat)
  case atStart => exact ⟨0, Nat.zero_le _, rfl, BO.start w5⟩
  case round =>
    obtain ⟨j, hj, rfl, HO⟩ := hrel
    have hzr := HO.out.size
    by_cases hlt : j < M
    · have hjl : j < l.length := by rw [HM.out]; exact hlt
      have HNr := Lib.hid (HN5.out.below HO.out.bel)
      obtain ⟨c0, c1, c2, c3, ho, A2, n2, q2, hu2⟩ := BkN.at_ HNr.out j hjl
      obtain ⟨A1, n1, q1, hu1⟩ := own_form ho
      have HTK := Lib.hid (linesB_take hjl)
      have HLN := Lib.hid (HLE.out (j + 1) (by rw [HM.out]; omega))
      have hgb := (HNr.out.bo.own.block g0 rfl).2
      rw [hu1] at c1 ho
      rw [hu2] at c2
      have HOW := Lib.hid (fun (W : World) (hb : Below w5.heap.size w5 W) => (BkN.at_ (HN5.out.below hb) j hjl).2.2.2.2.1)
      rw [hu1] at HOW
      have hn1 : (l[j]'hjl).1.lines.length = n1 := by
        rcases ho.form with ⟨h, h2⟩ | ⟨g, cp, h, _⟩
        · injection h with _ h _; rw [h2, h]; rfl
        · injection h with _ h _; exact h.symm
      generalize (l[j]'hjl).1 = b at *
      rw [HTK.out] at HLN
      generalize linesB ((l.take j).map (·.1)) = acc at *
      have G6 := Lib.hid (HO.out.new #[.int .i64 (b.kind : Int), .slice A1 n1 q1, .slice A2 n2 q2, .string b.name] 227)
      have HN1 := Lib.hid hn1
      clear ho hjl hu1 hu2 HNr hn1 HO
      go_upto_region 5 with (fail)
      generalize hW : wr.alloc (.cells #[.int .i64 (b.kind : Int), .slice A1 n1 q1, .slice A2 n2 q2, .string b.name] 227) = w6 at *
      obtain ⟨gx, _⟩ := G6.out.cell (p := (wr.heap.size, #[.int .i64 (b.kind : Int), .slice A1 n1 q1, .slice A2 n2 q2, .string b.name], 227)) (by simp)
      have d0 : w6.cell? ⟨wr.heap.size, 0, none⟩ = some (.int .i64 (b.kind : Int)) := gx 0
      have d1 : w6.cell? ⟨wr.heap.size, 1, none⟩ = some (.slice A1 n1 q1) := gx 1
      have d2 : w6.cell? ⟨wr.heap.size, 2, none⟩ = some (.slice A2 n2 q2) := gx 2
      have d3 : w6.cell? ⟨wr.heap.size, 3, none⟩ = some (.string b.name) := gx 3
      clear gx hW c0 c1 c2 c3
      generalize wr.heap.size = X at *
      go_wp2_with fail
      refine (Gap_c b _ _ w6).mono ?_
      rintro e w7 ⟨rfl, hb7⟩
      have G7 := Lib.hid (G6.out.below hb7)
      have HGP := Lib.hid (show b.gap ≤ 2 by unfold Blk.gap; split <;> omega)
      obtain ⟨gp, hgp⟩ : ∃ gp, b.gap = gp := ⟨_, rfl⟩
      rw [hgp] at HLN HTK HGP ⊢
      have hz7 := hb7.size
      have hz6 := G6.out.size
      clear hb7 G6 hgp d0 d1 d2 d3
      rw [List.length_append, List.length_append, List.length_replicate] at HLN
      go_wp2
      go_loopw [3, 15] (fun v i wq => ∃ q : Nat, q ≤ gp ∧ i = .int .i64 q ∧ Hid (StB w5 (acc ++ List.replicate q ⟨#[]⟩) v [(X, #[.int .i64 (b.kind : Int), .slice A1 n1 q1, .slice A2 n2 q2, .string b.name], 227)] wq)) (fun _ i _ => gp - (intOf i).toNat)
      case atStart => exact ⟨0, Nat.zero_le _, rfl, Lib.hid (by rw [List.replicate_zero, List.append_nil]; exact G7.out)⟩
      case round =>
        clear G7
        obtain ⟨q, hq, rfl, HG⟩ := hrel
        have hzq := HG.out.size
        have hgp := HGP.out
        obtain ⟨A3, n3, q3, rfl⟩ := own_form HG.out.own
        by_cases hql : q < gp
        · have HGA := Lib.hid (HG.out.alloc (.cells #[.string ⟨#[]⟩] 9))
          have hal : (acc ++ List.replicate q (⟨#[]⟩ : ByteArray)).length ≤ 60000000002 := by have := HLN.out; rw [List.length_append, List.length_replicate]; omega
          have HRE := Lib.hid (show acc ++ List.replicate (q + 1) (⟨#[]⟩ : ByteArray) = acc ++ List.replicate q ⟨#[]⟩ ++ [⟨#[]⟩] by rw [List.replicate_succ', List.append_assoc])
          generalize acc ++ List.replicate q (⟨#[]⟩ : ByteArray) = acq at *
          clear HG
          go_wp2_with (at_builtin; (refine wpList_pushB (R := strR) rfl _ _ _ rfl w5.heap.size w5.heap.size 9 i0 _ 16 Tryz.underlying59 hi0 hz0 hz1 hz2 rfl (by decide) _ (.slice A3 n3 q3) acq rfl HGA.out.own ⟨#[]⟩ _ rfl (oneC rfl) wr.heap.size _ _ (heap_alloc_new wr _) rfl (by unfold maxLen; omega) (by omega) (by simp; omega) ?_); intro g cap8 w8 hown8 hg8 hat8 hlt8)
          go_roundw
          case rel => exact ⟨q + 1, by omega, intNum, Lib.hid (by rw [HRE.out]; exact HGA.out.more hown8 hg8 rfl hat8)⟩
          case measure => simp [intOf]; omega
        · have hqg : q = gp := by omega
          subst hqg
          have hal : (acc ++ List.replicate q (⟨#[]⟩ : ByteArray)).length + n1 ≤ 60000000000 := by rw [List.length_append, List.length_replicate, ← HN1.out]; exact HLN.out
          generalize acc ++ List.replicate q (⟨#[]⟩ : ByteArray) = acq at *
          obtain ⟨gx, _⟩ := HG.out.cell (p := (X, #[.int .i64 (b.kind : Int), .slice A1 n1 q1, .slice A2 n2 q2, .string b.name], 227)) (by simp)
          have d1 : wr.cell? ⟨X, 1, none⟩ = some (.slice A1 n1 q1) := gx 1
          have HO2 := Lib.hid (HG.out.less (Q := []) (by simp))
          have HSL := Lib.hid ((HOW.out wr HG.out.bel).sliF (F := fun _ => True) (enc := fun x : ByteArray => [.string x]) (hn := fun _ => rfl) (fun _ _ => trivial))
          clear gx HG
          by_cases hn0 : n1 = 0
          · have HLZ := Lib.hid (show b.lines = [] from List.eq_nil_of_length_eq_zero (HN1.out.trans hn0))
            subst hn0
            go_wp2_with (at_builtin; (refine wpList_app0 (R := strR) rfl _ _ _ rfl w5.heap.size w5.heap.size 9 i0 Tryz.underlying59 hi0 _ (.slice A3 n3 q3) acq rfl HO2.out.own A1 q1 rfl ?_))
            go_roundw
            case rel => exact ⟨j + 1, by omega, intNum, Lib.hid (by rw [HTK.out, HLZ.out, List.append_nil]; exact HO2.out)⟩
            case measure => simp [intOf]; omega
          · go_wp2_with (at_builtin; (refine wpList_appL (enc := fun x : ByteArray => [.string x]) (hn := fun _ => rfl) rfl _ _ _ rfl w5.heap.size w5.heap.size 9 i0 _ 16 Tryz.underlying59 hi0 hz0 hz1 hz2 rfl (by decide) (fun x u hu => by simp at hu; subst hu; rfl) _ (.slice A3 n3 q3) acq rfl HO2.out.own b.lines A1 n1 q1 rfl HSL.out HN1.out (by omega) (by unfold maxLen; omega) (by omega) (by omega) ?_); intro g cap8 w8 hown8 hg8 hat8 hlt8)
            go_roundw
            case rel => exact ⟨j + 1, by omega, intNum, Lib.hid (by rw [HTK.out]; exact HO2.out.more hown8 hg8 rfl hat8)⟩
            case measure => simp [intOf]; omega
    · have HTK := Lib.hid (show linesB ((l.take j).map (·.1)) = linesS x by rw [List.take_of_length_le (by rw [HM.out]; omega)]; exact HLS.out)
      rw [HTK.out] at HO
      go_wp2
      go_ret
      exact ⟨_, rfl, HB5.out.trans (HO.out.bel.mono hz5), Own.less (enc := fun x : ByteArray => [.string x]) (hn := fun _ => rfl) HO.out.own hz5⟩
end Go.Proofs.YtnemcnpilngblaaGreatDoor

/- script.Lines and script.Eighths, walked. -/
namespace Go.Proofs.YtnemcnpilngblaaGreatDoor
set_option linter.unusedVariables false
open Go.RowKit Go.Sort

def lnE (x : Script) (k : Int) : Int := if ¬ chkE x = 0 then chkE x else if k < 0 ∨ (x.scenes.length : Int) ≤ k then 8 else 0
def LinP (x : Script) (k : Int) (w : World) (e : Ending) (w' : World) : Prop := ∃ v, e = .returned (.tuple #[v, .int .i64 (lnE x k)]) ∧ Below w.heap.size w w' ∧ ((¬ lnE x k = 0 ∧ v = .slice none 0 0) ∨ (lnE x k = 0 ∧ ∀ y, x.scenes[k.toNat]? = some y → Own strR w' w.heap.size w.heap.size 9 (linesS y) v))
theorem LinP.no {x : Script} {k q : Int} {w w' : World} (h : lnE x k = q) (h0 : ¬ q = 0) (hb : Below w.heap.size w w') : LinP x k w (.returned (.tuple #[.slice none 0 0, .int .i64 q])) w' := ⟨_, by rw [h], hb, .inl ⟨by rw [h]; exact h0, rfl⟩⟩
theorem LinP.yes {x : Script} {k : Int} {w w' : World} {v : Value} (h : lnE x k = 0) (hb : Below w.heap.size w w') (ho : ∀ y, x.scenes[k.toNat]? = some y → Own strR w' w.heap.size w.heap.size 9 (linesS y) v) : LinP x k w (.returned (.tuple #[v, .int .i64 0])) w' := ⟨_, by rw [h], hb, .inr ⟨h, ho⟩⟩
set_option maxRecDepth 100000 in
set_option maxHeartbeats 8000000 in
theorem Lines_c {F : Nat → Prop} (t : ByteArray) (ls : List (Scene × Value)) (v : Value) (k : Int) (w : World) (h : ScL w F t ls v) (hm : MaxLaid w) (hk : -10 ≤ k ∧ k ≤ 10000000) :
    Calls Tryz.prog 34 #[.agg #[.string t, v], .int .i64 k] w (LinP ⟨t, ls.map (·.1)⟩ k w) := by
  obtain ⟨A, c, rfl, hlc, hcm⟩ := h.sli.form
  have HB := Lib.hid ((Below.refl w.heap.size w).alloc (Nat.le_refl _) (.cells #[.string t, .slice A ls.length c] 44))
  have h1 := h.below HB.out
  have HCK := Lib.hid (Check_c t ls (.slice A ls.length c) (w.alloc (.cells #[.string t, .slice A ls.length c] 44)) h1 (max_alloc hm _))
  have HH := Lib.hid h1
  have HY := Lib.hid (fun (W : World) (hb : Below (w.alloc (.cells #[.string t, .slice A ls.length c] 44)).heap.size (w.alloc (.cells #[.string t, .slice A ls.length c] 44)) W) => show W.cell? ⟨w.heap.size, 0, none⟩ = some (.string t) ∧ W.cell? ⟨w.heap.size, 1, none⟩ = some (.slice A ls.length c) by
    obtain ⟨y, _⟩ := str_cells ((hb.block w.heap.size (by simp)).trans (heap_alloc_new w _))
    exact ⟨y 0, y 1⟩)
  have HLL := Lib.hid h.len
  have HLE := Lib.hid (show lnE ⟨t, ls.map (·.1)⟩ k = if ¬ chkE ⟨t, ls.map (·.1)⟩ = 0 then chkE ⟨t, ls.map (·.1)⟩ else if k < 0 ∨ (ls.length : Int) ≤ k then 8 else 0 by unfold lnE; rw [List.length_map])
  have HOX := Lib.hid (fun (hc : chkE ⟨t, ls.map (·.1)⟩ = 0) (y : Scene × Value) (hy : y ∈ ls) => LnOk.of (chkE_ok hc) (y := y.1) (List.mem_map_of_mem hy))
  clear h h1 hm
  obtain ⟨L, hL⟩ : ∃ L, ls.length = L := ⟨_, rfl⟩
  have HL := Lib.hid hL
  rw [hL] at HCK HH HY HLE hlc HLL HB ⊢
  clear hL
  go_enter Tryz.func34, Tryz.ntmps34
  go_wp2_with fail
  refine HCK.out.mono ?_
  rintro e w2 ⟨rfl, hb2⟩
  obtain ⟨y0, y1⟩ := HY.out w2 hb2
  have HH2 := Lib.hid (HH.out.below hb2)
  have HB2 := Lib.hid (HB.out.trans (hb2.mono HB.out.size))
  clear hb2 HCK HY HB HH
  by_cases hc : chkE ⟨t, ls.map (·.1)⟩ = 0
  case neg =>
    have HR := Lib.hid (HLE.out.trans (if_pos hc))
    have HN := Lib.hid hc
    have hne : (chkE ⟨t, ls.map (·.1)⟩ != 0) = true := by rw [bne_iff_ne]; exact hc
    clear hc
    generalize chkE ⟨t, ls.map (·.1)⟩ = ce at *
    go_wp2
    go_ret2
    exact LinP.no HR.out HN.out HB2.out
  have HC := Lib.hid hc
  have hE : lnE ⟨t, ls.map (·.1)⟩ k = if k < 0 ∨ (L : Int) ≤ k then 8 else 0 := HLE.out.trans (if_neg (fun h => h hc))
  rw [hc]
  clear hc HLE
  by_cases h1 : k < 0
  · have HR := Lib.hid (hE.trans (if_pos (.inl h1)))
    clear hE
    go_wp2
    go_ret2
    exact LinP.no HR.out (by decide) HB2.out
  by_cases h2 : (L : Int) ≤ k
  · have HR := Lib.hid (hE.trans (if_pos (.inr h2)))
    have h1' : 0 ≤ k := by omega
    clear hE h1
    go_wp2
    go_ret2
    exact LinP.no HR.out (by decide) HB2.out
  have HR := Lib.hid (hE.trans (if_neg (by omega)))
  obtain ⟨n, rfl⟩ : ∃ n : Nat, k = (n : Int) := ⟨k.toNat, by omega⟩
  have hnL : n < L := by omega
  have hnI : (n : Int) < (L : Int) := by omega
  have hnl : n < ls.length := by rw [HL.out]; exact hnL
  obtain ⟨b, off, rfl, hfb, c0, c1, c2, c3, c4⟩ := scAt HH2.out.sli n hnl
  have hsp := HH2.out.par _ (List.getElem_mem hnl)
  obtain ⟨A4, cc4, h4, _, _⟩ := hsp.form
  rw [h4] at c4
  rw [h4] at hsp
  have HLN := Lib.hid (fun W => lines_c (F := F) (ls[n]'hnl).1 (.slice A4 (ls[n]'hnl).1.paras.length cc4) W)
  have HOK := Lib.hid (HOX.out HC.out _ (List.getElem_mem hnl))
  have HSP := Lib.hid hsp
  have HGE := Lib.hid (show ∀ y, (ls.map (·.1))[(n : Int).toNat]? = some y → y = (ls[n]'hnl).1 from fun y hy => by
    rw [show (n : Int).toNat = n from rfl, List.getElem?_map, List.getElem?_eq_getElem hnl] at hy
    cases hy
    rfl)
  clear hE h1 h2 h4 hsp HOX
  generalize (ls[n]'hnl).1 = x at *
  generalize x.paras.length = pl at *
  clear hnl
  go_wp2_with fail
  refine (HLN.out w2 HSP.out HH2.out.lt HOK.out).mono ?_
  rintro e w3 ⟨vt, rfl, hb3, hown⟩
  have HB3 := Lib.hid (HB2.out.trans (hb3.mono HB2.out.size))
  have HO := Lib.hid (show Own strR w3 w.heap.size w.heap.size 9 (linesS x) vt from Own.less (enc := fun x : ByteArray => [.string x]) (hn := fun _ => rfl) hown HB2.out.size)
  clear hown hb3
  go_wp2
  go_ret2
  exact LinP.yes HR.out HB3.out (fun y hy => by rw [HGE.out y hy]; exact HO.out)
/-- How many lines the first k scenes have; eighths of pages. -/
def cntK (xs : List Scene) (k : Nat) : Nat := ((xs.take k).map fun x => (linesS x).length).sum
def mk8 (n : Nat) : Nat := (16 * n + 54) / 108
def eigK (xs : List Scene) (k : Nat) : List Int := (List.range k).map fun i => (mk8 (cntK xs (i + 1)) : Int) - (mk8 (cntK xs i) : Int)
theorem eigK_step (xs : List Scene) (k : Nat) : eigK xs (k + 1) = eigK xs k ++ [(mk8 (cntK xs (k + 1)) : Int) - (mk8 (cntK xs k) : Int)] := by
  unfold eigK
  rw [List.range_succ, List.map_append]
  rfl
theorem cntK_step {xs : List Scene} {k : Nat} (hk : k < xs.length) : cntK xs (k + 1) = cntK xs k + (linesS xs[k]).length := by
  unfold cntK
  rw [List.take_succ_eq_append_getElem hk, List.map_append, List.sum_append]
  simp
theorem cntK_le {xs : List Scene} (h : ∀ x ∈ xs, (linesS x).length ≤ 60000000000) : ∀ k, k ≤ xs.length → cntK xs k ≤ k * 60000000000
  | 0, _ => by simp [cntK]
  | k + 1, hk => by
    have ih := cntK_le h k (by omega)
    have h1 := h xs[k] (List.getElem_mem _)
    rw [cntK_step (by omega)]
    omega
def EigP (x : Script) (w : World) (e : Ending) (w' : World) : Prop := ∃ (v : Value) (m : Int), e = .returned (.tuple #[v, .int .i64 m, .int .i64 (chkE x)]) ∧ Below w.heap.size w w' ∧ ((¬ chkE x = 0 ∧ v = .slice none 0 0 ∧ m = 0) ∨ (chkE x = 0 ∧ m = (mk8 (cntK x.scenes x.scenes.length) : Int) ∧ Own intR w' w.heap.size w.heap.size 3 (eigK x.scenes x.scenes.length) v))
theorem eig_facts {c n : Nat} (hc : c ≤ 300000000000000) (hn : n ≤ 60000000000) : IntKind.i64.wrap ((c : Int) + (n : Int)) = ((c + n : Nat) : Int) ∧ IntKind.i64.wrap (16 * ((c + n : Nat) : Int)) = 16 * ((c + n : Nat) : Int) ∧ IntKind.i64.wrap (16 * ((c + n : Nat) : Int) + 54) = 16 * ((c + n : Nat) : Int) + 54 ∧ IntKind.i64.wrap ((16 * ((c + n : Nat) : Int) + 54).tdiv 108) = (mk8 (c + n) : Int) ∧ IntKind.i64.wrap ((mk8 (c + n) : Int) - (mk8 c : Int)) = (mk8 (c + n) : Int) - (mk8 c : Int) := by
  have h1 : mk8 (c + n) ≤ 1000000000000000 := by unfold mk8; omega
  have h2 : mk8 c ≤ 1000000000000000 := by unfold mk8; omega
  refine ⟨by rw [IntWalk.i64_in _ (by omega)]; omega, IntWalk.i64_in _ (by omega), IntWalk.i64_in _ (by omega), ?_, IntWalk.i64_in _ (by omega)⟩
  have h3 : (16 * ((c + n : Nat) : Int) + 54).tdiv 108 = (mk8 (c + n) : Int) := by
    rw [Int.tdiv_eq_ediv_of_nonneg (by omega)]
    unfold mk8
    omega
  rw [h3]
  exact IntWalk.i64_in _ (by omega)
set_option maxRecDepth 100000 in
set_option maxHeartbeats 8000000 in
theorem Eighths_c {F : Nat → Prop} (t : ByteArray) (ls : List (Scene × Value)) (v : Value) (w : World) (h : ScL w F t ls v) (hm : MaxLaid w) :
    Calls Tryz.prog 32 #[.agg #[.string t, v]] w (EigP ⟨t, ls.map (·.1)⟩ w) := by
  obtain ⟨i0, hi0, hz0, hz1, hz2⟩ := info_parts (show (Tryz.prog.info? 3).map (fun i => (i.zero, i.size, i.bytes)) = some (some (.int .i64 0), 1, 8) by kernel_rfl)
  obtain ⟨A, c, rfl, hlc, hcm⟩ := h.sli.form
  have HB := Lib.hid ((Below.refl w.heap.size w).alloc (Nat.le_refl _) (.cells #[.string t, .slice A ls.length c] 44))
  have h1 := h.below HB.out
  have HCK := Lib.hid (Check_c t ls (.slice A ls.length c) (w.alloc (.cells #[.string t, .slice A ls.length c] 44)) h1 (max_alloc hm _))
  have HH := Lib.hid h1
  have HY := Lib.hid (fun (W : World) (hb : Below (w.alloc (.cells #[.string t, .slice A ls.length c] 44)).heap.size (w.alloc (.cells #[.string t, .slice A ls.length c] 44)) W) => show W.cell? ⟨w.heap.size, 0, none⟩ = some (.string t) ∧ W.cell? ⟨w.heap.size, 1, none⟩ = some (.slice A ls.length c) by
    obtain ⟨y, _⟩ := str_cells ((hb.block w.heap.size (by simp)).trans (heap_alloc_new w _))
    exact ⟨y 0, y 1⟩)
  have HOX := Lib.hid (fun (hc : chkE ⟨t, ls.map (·.1)⟩ = 0) (y : Scene × Value) (hy : y ∈ ls) => LnOk.of (chkE_ok hc) (y := y.1) (List.mem_map_of_mem hy))
  have HSN := Lib.hid (fun (hc : chkE ⟨t, ls.map (·.1)⟩ = 0) => show ls.length ≤ 300 by have h := (chkE_ok hc).sn; rw [List.length_map] at h; exact h)
  clear h h1 hm
  obtain ⟨L, hL⟩ : ∃ L, ls.length = L := ⟨_, rfl⟩
  have HL := Lib.hid hL
  rw [hL] at HCK HH HY hlc HB HSN ⊢
  clear hL
  go_enter Tryz.func32, Tryz.ntmps32
  go_wp2_with fail
  refine HCK.out.mono ?_
  rintro e w2 ⟨rfl, hb2⟩
  obtain ⟨y0, y1⟩ := HY.out w2 hb2
  have HH2 := Lib.hid (HH.out.below hb2)
  have HB2 := Lib.hid (HB.out.trans (hb2.mono HB.out.size))
  clear hb2 HCK HY HB HH
  by_cases hc : chkE ⟨t, ls.map (·.1)⟩ = 0
  case neg =>
    have HR := Lib.hid (show EigP ⟨t, ls.map (·.1)⟩ w (.returned (.tuple #[.slice none 0 0, .int .i64 0, .int .i64 (chkE ⟨t, ls.map (·.1)⟩)])) w2 from ⟨_, _, rfl, HB2.out, .inl ⟨hc, rfl, rfl⟩⟩)
    have hne : (chkE ⟨t, ls.map (·.1)⟩ != 0) = true := by rw [bne_iff_ne]; exact hc
    clear hc
    generalize chkE ⟨t, ls.map (·.1)⟩ = ce at *
    go_wp2
    go_ret3
    exact HR.out
  have HC := Lib.hid hc
  have hL3 := HSN.out hc
  have HLN := Lib.hid (show ∀ x ∈ ls.map (·.1), (linesS x).length ≤ 60000000000 from fun x hx => by
    obtain ⟨y, hy, rfl⟩ := List.mem_map.1 hx
    exact linesS_len (HOX.out hc y hy))
  have hzw2 := HB2.out.size
  rw [hc]
  clear hc HSN
  go_wp2
  go_loopw [6, 7, 8, 20] (fun v ct mk i wr => ∃ k : Nat, k ≤ L ∧ i = .int .i64 k ∧ ct = .int .i64 (cntK (ls.map (·.1)) k : Int) ∧ mk = .int .i64 (mk8 (cntK (ls.map (·.1)) k) : Int) ∧ Hid (BO intR 3 w2 (eigK (ls.map (·.1)) k) v [] wr)) (fun _ _ _ i _ => L - (intOf i).toNat)
  case atStart => exact ⟨0, Nat.zero_le _, rfl, rfl, by rw [show mk8 (cntK (ls.map (·.1)) 0) = 0 from by unfold cntK; rw [List.take_zero]; rfl]; rfl, BO.start w2⟩
  case round =>
    clear y0 y1
    obtain ⟨k, hk, rfl, rfl, rfl, HO⟩ := hrel
    have hzr := HO.out.size
    by_cases hlt : k < L
    · have hkl : k < ls.length := by rw [HL.out]; exact hlt
      have hkm : k < (ls.map (·.1)).length := by rw [List.length_map]; exact hkl
      have HHr := Lib.hid (HH2.out.below HO.out.bel)
      obtain ⟨b, off, rfl, hfb, c0, c1, c2, c3, c4⟩ := scAt HHr.out.sli k hkl
      have hsp := HHr.out.par _ (List.getElem_mem hkl)
      obtain ⟨A4, cc4, h4, _, _⟩ := hsp.form
      rw [h4] at c4
      rw [h4] at hsp
      have HLI := Lib.hid (fun W => lines_c (F := F) (ls[k]'hkl).1 (.slice A4 (ls[k]'hkl).1.paras.length cc4) W)
      have HOK := Lib.hid (HOX.out HC.out _ (List.getElem_mem hkl))
      have hst := cntK_step hkm
      rw [List.getElem_map] at hst
      have hcl := cntK_le HLN.out k (by omega)
      have hn := HLN.out _ (List.mem_map_of_mem (List.getElem_mem hkl))
      have HES := Lib.hid (eigK_step (ls.map (·.1)) k)
      have hel : (eigK (ls.map (·.1)) k).length = k := by unfold eigK; simp
      have HSP := Lib.hid (hsp.alloc (.cells #[.string (ls[k]'hkl).1.no, .int .i64 (ls[k]'hkl).1.place, .string (ls[k]'hkl).1.set, .int .i64 (ls[k]'hkl).1.time, .slice A4 (ls[k]'hkl).1.paras.length cc4] 69) HHr.out.lt)
      have HLT := Lib.hid HHr.out.lt
      generalize (ls[k]'hkl).1 = x at *
      obtain ⟨n, hn2⟩ : ∃ n, (linesS x).length = n := ⟨_, rfl⟩
      have HN := Lib.hid hn2
      rw [hn2] at hn hst
      rw [hst] at HES
      have HCK := Lib.hid hst
      clear hst
      generalize cntK (ls.map (·.1)) k = cn at *
      generalize eigK (ls.map (·.1)) k = acc at *
      obtain ⟨f1, f2, f3, f4, f5⟩ := eig_facts (c := cn) (n := n) (by omega) hn
      generalize cn + n = sn at *
      have G6 := Lib.hid (HO.out.new #[.string x.no, .int .i64 x.place, .string x.set, .int .i64 x.time, .slice A4 x.paras.length cc4] 69)
      obtain ⟨A3, n3, q3, rfl⟩ := own_form HO.out.own
      clear hkl hkm h4 hsp HHr hn2 HO
      have hG7 := G6.out.less (Q := []) (by simp)
      go_upto_region 9 with (fail)
      generalize hW : wr.alloc (.cells #[.string x.no, .int .i64 x.place, .string x.set, .int .i64 x.time, .slice A4 x.paras.length cc4] 69) = w6 at *
      obtain ⟨e0, e1, e2, e3, e4⟩ := sc_cells (G6.out.cell (p := (wr.heap.size, #[.string x.no, .int .i64 x.place, .string x.set, .int .i64 x.time, .slice A4 x.paras.length cc4], 69)) (by simp))
      have hz6 : wr.heap.size ≤ w6.heap.size := by rw [← hW]; simp
      have G7 := Lib.hid hG7
      have HLL6 := Lib.hid (HLI.out w6 HSP.out (fun b hb => by have := HLT.out b hb; omega) HOK.out)
      clear hW G6 hG7 HLI HSP c0 c1 c2 c3 c4
      generalize wr.heap.size = X at *
      generalize x.paras.length = pl at *
      go_wp2_with fail
      refine HLL6.out.mono ?_
      rintro e w7 ⟨v7, rfl, hb7, ho7⟩
      have hn7 : ∃ A c, v7 = .slice A n c := by
        rcases ho7.form with ⟨h, h2⟩ | ⟨g, cp, h, _⟩
        · exact ⟨none, 0, by rw [h, ← HN.out, h2]; rfl⟩
        · exact ⟨_, cp, by rw [h, HN.out]⟩
      obtain ⟨A7, c7, rfl⟩ := hn7
      have G8 := Lib.hid (G7.out.below hb7)
      have hz7 := G8.out.size
      have GA := Lib.hid (G8.out.alloc (.cells #[.int .i64 ((mk8 sn : Int) - (mk8 cn : Int))] 3))
      clear hb7 ho7 G7 HLL6 e0 e1 e2 e3 e4
      go_wp2_with (at_builtin; (refine wpList_pushB (R := intR) rfl _ _ _ rfl w2.heap.size w2.heap.size 3 i0 _ 8 Tryz.underlying22 hi0 hz0 hz1 hz2 rfl (by decide) _ (.slice A3 n3 q3) acc rfl GA.out.own ((mk8 sn : Int) - (mk8 cn : Int)) _ rfl (oneC rfl) w7.heap.size _ _ (heap_alloc_new w7 _) rfl (by unfold maxLen; omega) (by omega) (by simp; omega) ?_); intro g cap8 w8 hown8 hg8 hat8 hlt8)
      go_roundw
      case rel =>
        rw [hel] at hown8
        exact ⟨k + 1, by omega, intNum, by rw [HCK.out], by rw [HCK.out], Lib.hid (by rw [HES.out]; exact GA.out.more hown8 hg8 rfl hat8)⟩
      case measure => simp [intOf]; omega
    · have hkL : k = L := by omega
      subst hkL
      have HR := Lib.hid (show EigP ⟨t, ls.map (·.1)⟩ w (.returned (.tuple #[u6, .int .i64 (mk8 (cntK (ls.map (·.1)) k) : Int), .int .i64 0])) wr from ⟨_, _, by rw [HC.out], HB2.out.trans (HO.out.bel.mono hzw2), .inr ⟨HC.out, by rw [List.length_map, HL.out], by rw [List.length_map, HL.out]; exact Own.less (enc := fun x : Int => [.int .i64 x]) (hn := fun _ => rfl) HO.out.own hzw2⟩⟩)
      go_wp2
      go_ret3
      exact HR.out
end Go.Proofs.YtnemcnpilngblaaGreatDoor

/- The reference's blocks: how they lie; a text that is not blank has a line. -/
namespace Go.Proofs.YtnemcnpilngblaaGreatDoor
set_option linter.unusedVariables false
open Go.RowKit Go.Sort

theorem wrapL_some {wd : Nat} (h0 : 0 < wd) : ∀ (ws : List (List UInt8)), (∀ w ∈ ws, ¬ w = []) → ws ≠ [] → ¬ (wrapL wd ws).cur = [] := by
  have step : ∀ (st : Wst) (w : List UInt8), ¬ w = [] → ¬ (wrapW wd st w).cur = [] := by
    intro st w hw
    unfold wrapW
    rw [if_neg hw]
    split
    · simp
    · exact chopZ_pos h0 w.length w (Nat.le_refl _) hw
  intro ws hws hne
  obtain ⟨a, w, rfl⟩ : ∃ a w, ws = a ++ [w] := ⟨ws.dropLast, ws.getLast hne, (List.dropLast_concat_getLast hne).symm⟩
  rw [wrapL_snoc]
  exact step _ w (hws w (by simp))
theorem wrapT_pos {s : ByteArray} {wd : Nat} (h0 : 0 < wd) (h : wordsA s.data.toList [] ≠ []) : 0 < (wrapT s wd).length := by
  unfold wrapT
  rw [List.length_map]
  have h1 := wrapL_some h0 (wordsA s.data.toList []) (wordsA_ne2 s.data.toList []) h
  have h2 := wrapL_ok h0 (wordsA s.data.toList [])
  refine Nat.pos_of_ne_zero fun e => h1 ((all_nil h2).1 (List.eq_nil_of_length_eq_zero e))
theorem plain_words {s : ByteArray} (h : plainB s = true) (h0 : 0 < s.size) : wordsA s.data.toList [] ≠ [] := fun e => by
  have h2 : (allB prB s && plainL s.data.toList) = true := h
  rw [Bool.and_eq_true] at h2
  have h3 := (plain_join _).2 h2.2
  rw [e] at h3
  have h4 : s.data.toList.length = s.size := by simp
  rw [← h3] at h4
  simp [joinW] at h4
  omega
theorem par_words (s : ByteArray) : wordsA (⟨#[40]⟩ ++ s ++ ⟨#[41]⟩ : ByteArray).data.toList [] ≠ [] := by
  rw [show (⟨#[40]⟩ ++ s ++ ⟨#[41]⟩ : ByteArray).data.toList = 40 :: (s.data.toList ++ [41]) by simp]
  rw [wordsA, if_neg (by decide)]
  exact wordsA_ne _ _ (by simp)
/-- The reference's blocks. -/
def rkN (k : Nat) : Int := if k = 2 then 5 else if k = 3 then 2 else (k : Int)
def rbCs (x : BkT) : List Value := [.int .i64 (rkN x.1.kind), x.2.1, x.2.2]
def rbI (b : Bool) (x : BkT) : List Value := match b with
  | false => x.1.lines.map .string
  | true => x.1.kinds.map fun k : Nat => Value.bool (decide (k = 2))
def rbE (b : Bool) : TypeId := match b with
  | false => 9
  | true => 4
def rbR : Rep BkT := Rep.flat 3 rbCs (fun _ => rfl)
abbrev RbN (w : World) (l : List BkT) (v : Value) (P : List Pc) (wx : World) : Prop := NGF 3 rbCs (fun _ => rfl) rbI bkV 146 rbE w l v P wx
section
variable {w wx wy : World} {l : List BkT} {P : List Pc} {g0 M cap k g' : Nat} {y : BkT} {u : Value}
theorem RbN.line {L' : List ByteArray} (h : RbN w (l.set k y) (.slice (some ⟨g0, 0, none⟩) M cap) P wx) (hk : k < l.length) (hown : Own valR wy w.heap.size w.heap.size 9 (L'.map .string) u) (hg : wx.grownBy wy y.2.1.ownBlock) (hv : u.ownBlock = some g') (hat : y.2.1.ownBlock = some g' ∨ wx.heap.size ≤ g') :
    RbN w (l.set k ({ y.1 with lines := L' }, u, y.2.2)) (.slice (some ⟨g0, 0, none⟩) M cap) P (wy.setCell ⟨g0, k * 3 + 1, none⟩ u) := by
  have hk2 : k < (l.set k y).length := by rw [List.length_set]; exact hk
  have he : (l.set k y)[k] = y := List.getElem_set_self (by rw [List.length_set]; exact hk)
  have h2 := NG.inner (b := false) (k := k) (j := 1) h hk2 hown (by rw [he]; exact hg) hv (by rw [he]; exact hat) (fun x => ({ x.1 with lines := L' }, u, x.2.2)) (fun x => rfl) (by decide) rfl rfl (fun c hc => by
    cases c with
    | false => exact absurd rfl hc
    | true => exact ⟨rfl, rfl⟩)
  rw [set_modify] at h2
  exact h2
theorem RbN.kind {K' : List Nat} (h : RbN w (l.set k y) (.slice (some ⟨g0, 0, none⟩) M cap) P wx) (hk : k < l.length) (hown : Own valR wy w.heap.size w.heap.size 4 (K'.map fun k : Nat => Value.bool (decide (k = 2))) u) (hg : wx.grownBy wy y.2.2.ownBlock) (hv : u.ownBlock = some g') (hat : y.2.2.ownBlock = some g' ∨ wx.heap.size ≤ g') :
    RbN w (l.set k ({ y.1 with kinds := K' }, y.2.1, u)) (.slice (some ⟨g0, 0, none⟩) M cap) P (wy.setCell ⟨g0, k * 3 + 2, none⟩ u) := by
  have hk2 : k < (l.set k y).length := by rw [List.length_set]; exact hk
  have he : (l.set k y)[k] = y := List.getElem_set_self (by rw [List.length_set]; exact hk)
  have h2 := NG.inner (b := true) (k := k) (j := 2) h hk2 hown (by rw [he]; exact hg) hv (by rw [he]; exact hat) (fun x => ({ x.1 with kinds := K' }, x.2.1, u)) (fun x => rfl) (by decide) rfl rfl (fun c hc => by
    cases c with
    | true => exact absurd rfl hc
    | false => exact ⟨rfl, rfl⟩)
  rw [set_modify] at h2
  exact h2
/-- A new block goes behind the others. -/
theorem RbN.snoc {wa : World} {v v' v1 v2 : Value} {b : Blk} {g : Nat} {o : Obj} (h : RbN w l v P wx) (hb : Below wx.heap.size wx wa) (h1 : Own valR wa wx.heap.size wx.heap.size 9 (b.lines.map .string) v1) (h2 : Own valR wa wx.heap.size wx.heap.size 4 (b.kinds.map fun k : Nat => Value.bool (decide (k = 2))) v2) (hd : Dis v1 v2)
    (hown : Own rbR wy w.heap.size w.heap.size 146 (l ++ [(b, v1, v2)]) v') (hg : (wa.alloc o).grownBy wy v.ownBlock) (hv : v'.ownBlock = some g) (hat : v.ownBlock = some g ∨ g = (wa.alloc o).heap.size) : RbN w (l ++ [(b, v1, v2)]) v' P wy :=
  NG.push ((h.below hb).alloc o) ((NGNew.of h (x' := (b, v1, v2)) (fun c => by
    cases c with
    | false => exact h1
    | true => exact h2) (fun c d hcd => by
    cases c with
    | false => cases d with
      | false => exact absurd rfl hcd
      | true => exact hd
    | true => cases d with
      | true => exact absurd rfl hcd
      | false => exact hd.symm)).alloc o) hown hg hv hat
theorem RbN.first {wa : World} {v1 v2 : Value} {b : Blk} (hb0 : Below w.heap.size w wx) (hb : Below wx.heap.size wx wa) (h1 : Own valR wa wx.heap.size wx.heap.size 9 (b.lines.map .string) v1) (h2 : Own valR wa wx.heap.size wx.heap.size 4 (b.kinds.map fun k : Nat => Value.bool (decide (k = 2))) v2) (hd : Dis v1 v2) :
    RbN w [(b, v1, v2)] (.slice (some ⟨wa.heap.size, 0, none⟩) 1 1) [] (wa.alloc (.cells (rbCs (b, v1, v2)).toArray 146)) :=
  NG.one (hb0.trans (hb.mono hb0.size)) (fun c => by
    cases c with
    | false => exact Own.less (enc := fun v : Value => [v]) (hn := fun _ => rfl) h1 hb0.size
    | true => exact Own.less (enc := fun v : Value => [v]) (hn := fun _ => rfl) h2 hb0.size) (fun c d hcd => by
    cases c with
    | false => cases d with
      | false => exact absurd rfl hcd
      | true => exact hd
    | true => cases d with
      | true => exact absurd rfl hcd
      | false => exact hd.symm)
/-- The cells of a block under way. -/
theorem RbN.cells {l2 : List BkT} (hl : l2 = l.set k y) (hk : k < l.length) (h : RbN w l2 (.slice (some ⟨g0, 0, none⟩) M cap) P wx) : (wx.cell? ⟨g0, k * 3 + 1, none⟩ = some y.2.1 ∧ wx.frozen? ⟨g0, k * 3 + 1, none⟩ = false) ∧ (wx.cell? ⟨g0, k * 3 + 2, none⟩ = some y.2.2 ∧ wx.frozen? ⟨g0, k * 3 + 2, none⟩ = false) := by
  subst hl
  have hk3 : k < (l.set k y).length := by rw [List.length_set]; exact hk
  have he3 : (l.set k y)[k] = y := List.getElem_set_self hk3
  have a1 := Own.cellAt h.bo.own k hk3 1 (by decide)
  have a2 := Own.cellAt h.bo.own k hk3 2 (by decide)
  rw [he3] at a1 a2
  exact ⟨a1, a2⟩
end
end Go.Proofs.YtnemcnpilngblaaGreatDoor

