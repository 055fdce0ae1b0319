/- Texts packed: LnY, LnZ. -/
import Derived.Test.YtnemcnpilngblaaGreatDoorSc39
import Derived.Test.YtnemcnpilngblaaGreatDoorSc38
/- R.LinesOf, R.EighthsOf, walked. -/
namespace Go.Proofs.YtnemcnpilngblaaGreatDoor
set_option linter.unusedVariables false
open Go.RowKit Go.Sort

/-- A whole list goes behind a list under way. -/
theorem oper_boApp {P : Program} {α : Type} {n : Nat} {enc : α → List Value} {hn : ∀ x, (enc x).length = n} {o : Oper} {a : Act} {K : Act → World → Prop} {Q : Exit → Act → World → Prop} (s x : Operand) (t : TypeId)
    (ho : o.op = .call { callee := .builtin .append, args := #[s, x], argTypes := #[t, t] })
    (e : TypeId) (i : TypeInfo) (z : Value) (bytes : Nat) (ht : P.underlying t = some (.slice e)) (hi : P.info? e = some i) (hz : i.zero = some z)
    (hsize : i.size = n) (hby : i.bytes = bytes) (hzs : z.cells.size = n) (hsz : 0 < n) (h1 : ∀ x, ∀ u ∈ enc x, u.oneCell' = true)
    {w0 : World} {Ps : List Pc} (W : World) (v : Value) (l : List α) (hs : a.eval s = v) (hB : BO (Rep.flat n enc hn) e w0 l v Ps W) {F : Nat → Prop} (ys : List α) (ad : Option Addr) (m c : Nat) (hx : a.eval x = .slice ad m c) (hy : Sli (Rep.flat n enc hn) W F ys (.slice ad m c)) (hm : ys.length = m)
    (h63 : l.length + m ≤ maxLen) (hbytes : (l.length + m) * bytes ≤ 140737488355328)
    (h : ∀ v' w', BO (Rep.flat n enc hn) e w0 (l ++ ys) v' Ps w' → K (a.put o.dst v') w') : Oper.wp P o a W K Q := by
  by_cases h0 : m = 0
  · subst h0
    have hys : ys = [] := List.eq_nil_of_length_eq_zero hm
    subst hys
    exact oper_app0 s x t ho w0.heap.size w0.heap.size e i ht hi W v l hs hB.own ad c hx (h v W (by rw [List.append_nil]; exact hB))
  · exact oper_appL s x t ho w0.heap.size w0.heap.size e i z bytes ht hi hz hsize hby hzs hsz h1 W v l hs hB.own ys ad m c hx hy hm (by omega) h63 hbytes hB.size fun g cap w' h2 h3 h4 h5 => h _ _ (hB.more h2 h3 rfl h4)
/-- The gap of a block, on the reference's side. -/
theorem rk_zero (k : Nat) : ((rkN k == 0) = true ↔ k = 0) := by
  unfold rkN
  split
  · rename_i h; subst h; simp
  · split
    · rename_i h; subst h; simp
    · simp
theorem gapR_c (b : Blk) (v1 v2 : Value) (w : World) : Calls Tryz.prog 104 #[.agg #[.int .i64 (rkN b.kind), v1, v2]] w fun e w' => e = .returned (.int .i64 (b.gap : Int)) ∧ Below w.heap.size w w' := by
  have HB := Lib.hid ((Below.refl w.heap.size w).alloc (Nat.le_refl _) (.cells #[.int .i64 (rkN b.kind), v1, v2] 146))
  cases h0 : (rkN b.kind == 0) with
  | true =>
    have HG := Lib.hid (show b.gap = 2 from if_pos ((rk_zero _).1 h0))
    go_enter Tryz.func104, Tryz.ntmps104
    go_wp2
    go_ret
    exact ⟨by rw [HG.out]; rfl, HB.out⟩
  | false =>
    have HG := Lib.hid (show b.gap = 1 from if_neg (fun h => by rw [(rk_zero _).2 h] at h0; cases h0))
    go_enter Tryz.func104, Tryz.ntmps104
    go_wp2
    go_ret
    exact ⟨by rw [HG.out]; rfl, HB.out⟩
/-- A block read from the list. -/
theorem RbN.at_ {w wx : World} {l : List BkT} {g0 M cap : Nat} {P : List Pc} (h : RbN w l (.slice (some ⟨g0, 0, none⟩) M cap) P wx) (j : Nat) (hj : j < l.length) :
    wx.cell? ⟨g0, j * 3, none⟩ = some (.int .i64 (rkN l[j].1.kind)) ∧ wx.cell? ⟨g0, j * 3 + 1, none⟩ = some l[j].2.1 ∧ wx.cell? ⟨g0, j * 3 + 2, none⟩ = some l[j].2.2 ∧
    Own strR wx w.heap.size w.heap.size 9 l[j].1.lines l[j].2.1 ∧ ∃ A n c, l[j].2.2 = .slice A n c := by
  have hr := (h.row false j l[j] (List.getElem?_eq_getElem hj)).1
  have hk := (h.row true j l[j] (List.getElem?_eq_getElem hj)).1
  exact ⟨(Own.cellAt h.bo.own j hj 0 (by decide)).1, (Own.cellAt h.bo.own j hj 1 (by decide)).1, (Own.cellAt h.bo.own j hj 2 (by decide)).1, Own.strs hr, own_form hk⟩
set_option maxRecDepth 100000 in
set_option maxHeartbeats 8000000 in
theorem LinesOf_c {F : Nat → Prop} (x : Scene) (v : Value) (w : World) (hv : Sli paraR w F x.paras v) (hF : ∀ b, F b → b < w.heap.size) (hok : LnOk x) (hsp : SpLaid w) :
    Calls Tryz.prog 39 #[.agg #[.string x.no, .int .i64 x.place, .string x.set, .int .i64 x.time, v]] w (LnsP x w) := by
  obtain ⟨i0, hi0, hz0, hz1, hz2⟩ := info_parts (show (Tryz.prog.info? 9).map (fun i => (i.zero, i.size, i.bytes)) = some (some (.string ⟨#[]⟩), 1, 16) by kernel_rfl)
  obtain ⟨A, c, rfl, hlc, hcm⟩ := hv.form
  obtain ⟨L, hL⟩ : ∃ L, x.paras.length = L := ⟨_, rfl⟩
  have HBD := Lib.hid (And.intro (linesS_len hok) (blocks_len hok))
  rw [hL] at hv hlc ⊢
  have HB1 := Lib.hid ((Below.refl w.heap.size w).alloc (Nat.le_refl _) (.cells #[.string x.no, .int .i64 x.place, .string x.set, .int .i64 x.time, .slice A L c] 69))
  have HBL := Lib.hid (blocksOf_c x (.slice A L c) (w.alloc (.cells #[.string x.no, .int .i64 x.place, .string x.set, .int .i64 x.time, .slice A L c] 69)) (hv.alloc (.cells #[.string x.no, .int .i64 x.place, .string x.set, .int .i64 x.time, .slice A L c] 69) hF) (fun b hb => by have := hF b hb; simp; omega) hok (sp_below hsp HB1.out (Nat.le_refl _)))
  clear hL hv hF hok hsp
  go_enter Tryz.func39, Tryz.ntmps39
  go_wp2_with fail
  refine HBL.out.mono ?_
  rintro e w5 ⟨l, v5, rfl, hl5, hN5⟩
  have HB5 := Lib.hid (HB1.out.trans (hN5.bo.bel.mono (by simp)))
  have hpos : 0 < l.length := by
    have h := blkN_pos x x.paras.length
    unfold blkN at h
    rw [List.take_length] at h
    have h2 : (l.map (·.1)).length = (blocksS x).length := by rw [hl5]
    rw [List.length_map] at h2
    unfold blocksS at h2
    omega
  obtain ⟨g0, cap, rfl, _, _⟩ := Own.some_ hN5.bo.own hpos
  have hll : l.length ≤ 4001 := by
    have h := congrArg List.length hl5
    rw [List.length_map] at h
    rw [h]
    exact HBD.out.2
  obtain ⟨M, hM⟩ : ∃ M, l.length = M := ⟨_, rfl⟩
  have HM := Lib.hid hM
  rw [hM] at hN5 hll ⊢
  have HN5 := Lib.hid hN5
  have HLS := Lib.hid (show linesB (l.map (·.1)) = linesS x by rw [hl5]; rfl)
  have HLE := Lib.hid (show ∀ j, j ≤ l.length → (linesB ((l.take j).map (·.1))).length ≤ 60000000000 from fun j hj => by
    have h1 : linesB (l.map (·.1)) = linesB ((l.take j).map (·.1)) ++ linesB ((l.drop j).map (·.1)) := by
      unfold linesB
      rw [← List.flatMap_append, ← List.map_append, List.take_append_drop]
    have h2 := congrArg List.length h1
    rw [List.length_append] at h2
    have h3 : (linesB (l.map (·.1))).length ≤ 60000000000 := by rw [HLS.out]; exact HBD.out.1
    omega)
  have hz5 := HB5.out.size
  clear hM hl5 hN5 hpos HBL HB1
  go_wp2
  go_loopw [3, 9] (fun v i wr => ∃ j : Nat, j ≤ M ∧ i = .int .i64 j ∧ Hid (StB w5 (linesB ((l.take j).map (·.1))) v [] wr)) (fun _ i _ => M - (intOf i).toNat)
  case atStart => exact ⟨0, Nat.zero_le _, rfl, BO.start w5⟩
  case round =>
    obtain ⟨j, hj, rfl, HO⟩ := hrel
    have hzr := HO.out.size
    by_cases hlt : j < M
    · have hjl : j < l.length := by rw [HM.out]; exact hlt
      have HNr := Lib.hid (HN5.out.below HO.out.bel)
      obtain ⟨c0, c1, c2, ho, A2, n2, q2, hu2⟩ := RbN.at_ HNr.out j hjl
      obtain ⟨A1, n1, q1, hu1⟩ := own_form ho
      have HTK := Lib.hid (linesB_take hjl)
      have HLN := Lib.hid (HLE.out (j + 1) (by rw [HM.out]; omega))
      have hgb := (HNr.out.bo.own.block g0 rfl).2
      have HOW := Lib.hid (fun (W : World) (hb : Below w5.heap.size w5 W) => (RbN.at_ (HN5.out.below hb) j hjl).2.2.2.1)
      rw [hu1] at HOW
      rw [hu1] at c1 ho
      rw [hu2] at c2
      have hn1 : (l[j]'hjl).1.lines.length = n1 := by
        rcases ho.form with ⟨h, h2⟩ | ⟨g, cp, h, _⟩
        · injection h with _ h _; rw [h2, h]; rfl
        · injection h with _ h _; exact h.symm
      generalize (l[j]'hjl).1 = b at *
      rw [HTK.out] at HLN
      generalize linesB ((l.take j).map (·.1)) = acc at *
      have G6 := Lib.hid (HO.out.new #[.int .i64 (rkN b.kind), .slice A1 n1 q1, .slice A2 n2 q2] 146)
      have HN1 := Lib.hid hn1
      clear ho hjl hu1 hu2 HNr hn1 HO
      obtain ⟨A3, n3, q3, rfl⟩ := own_form G6.out.own
      go_upto_region 5 with (fail)
      generalize hW : wr.alloc (.cells #[.int .i64 (rkN b.kind), .slice A1 n1 q1, .slice A2 n2 q2] 146) = w6 at *
      have HXC := Lib.hid (fun (W : World) (l2 : List ByteArray) (v2 : Value) (h : StB w5 l2 v2 [(wr.heap.size, #[.int .i64 (rkN b.kind), .slice A1 n1 q1, .slice A2 n2 q2], 146)] W) => show W.cell? ⟨wr.heap.size, 0, none⟩ = some (.int .i64 (rkN b.kind)) ∧ W.cell? ⟨wr.heap.size, 1, none⟩ = some (.slice A1 n1 q1) ∧ W.cell? ⟨wr.heap.size, 2, none⟩ = some (.slice A2 n2 q2) from
        have ⟨gx, _⟩ := h.cell (p := (wr.heap.size, #[.int .i64 (rkN b.kind), .slice A1 n1 q1, .slice A2 n2 q2], 146)) (by simp)
        ⟨gx 0, gx 1, gx 2⟩)
      clear hW c0 c1 c2
      generalize wr.heap.size = X at *
      have HGP := Lib.hid (show 0 < b.gap ∧ b.gap ≤ 2 by unfold Blk.gap; split <;> omega)
      have hln := HLN.out
      rw [List.length_append, List.length_append, List.length_replicate, HN1.out] at hln
      have hz6 := G6.out.size
      obtain ⟨ι, ff, hne, hff, hfS⟩ := family (fun W => W.cell? ⟨X, 0, none⟩ = some (.int .i64 (rkN b.kind)) ∧ W.cell? ⟨X, 1, none⟩ = some (.slice A1 n1 q1) ∧ W.cell? ⟨X, 2, none⟩ = some (.slice A2 n2 q2)) w6 (HXC.out _ _ _ G6.out)
      have hneW : Nonempty World := ⟨w⟩
      have s0 := fun p => (hff p).1
      have s1 := fun p => (hff p).2.1
      have s2 := fun p => (hff p).2.2
      have HFS := Lib.hid hfS
      clear hff hfS
      refine wp_region_segs2 [2, 3, 6] [7] [] [([0, 4], [1, 5], 2), ([], [], 3), ([], [], 6)] (by kernel_rfl) (by kernel_rfl) (fun _ _ _ dd _ h => by cases dd <;> exact h) (fun W => ∃ p : ι, W = ff p) (HFS.out _ (HXC.out _ _ _ G6.out.drew)) ?_
      refine wpSegs2_step (by simp only [pick, List.getElem?_cons_succ, List.getElem?_cons_zero]; rfl) (by simp only [pick, List.getElem?_cons_succ, List.getElem?_cons_zero]; rfl) rfl (fun K0 hK0 L0 hL0 => ?_)
      repeat (first | go_big_quiet_step (fail) | quiet_step (fail))
      refine wpQuiet_nil (hL0 _ ?_)
      repeat (first | go_big_quiet_step (fail) | quiet_step (fail))
      refine wpQuiet_nil ?_
      go_simp
      refine (gapR_c b _ _ w6.drew).mono ?_
      rintro e w7 ⟨rfl, hb7⟩
      have G7 := Lib.hid (G6.out.drew.below hb7)
      have hz7 := G7.out.size
      clear hb7 G6
      refine hK0 (fun W => ∃ p : ι, W = ff p) _ _ (fun _ h => h) (HFS.out _ (HXC.out _ _ _ G7.out)) ?_
      refine wpSegs2_step (by simp only [pick, List.getElem?_cons_succ, List.getElem?_cons_zero]; rfl) (by simp only [pick, List.getElem?_cons_succ, List.getElem?_cons_zero]; rfl) rfl (fun K1 hK1 L1 hL1 => ?_)
      repeat (first | go_big_quiet_step (fail) | quiet_step (fail))
      refine wpQuiet_nil (hL1 _ ?_)
      repeat (first | go_big_quiet_step (fail) | quiet_step (fail))
      refine wpQuiet_nil ?_
      refine oper_zeros (enc := fun x : ByteArray => [.string x]) (hn := fun _ => rfl) _ _ _ _ rfl w5.heap.size w5.heap.size 9 i0 _ 16 Tryz.underlying59 .i64 Tryz.underlying3 hi0 hz0 hz1 hz2 rfl (⟨#[]⟩ : ByteArray) rfl rfl w7 (.slice A3 n3 q3) acc rfl G7.out.own .i64 b.gap HGP.out.1 rfl (by have := HGP.out.2; unfold maxLen; omega) (by have := HGP.out.2; omega) hz7 ?_
      intro g8 cap8 w8 hown8 hg8 hat8 hlt8
      have G8 := Lib.hid (G7.out.more hown8 hg8 rfl hat8)
      clear hown8 hg8 hat8 hlt8 G7
      refine hK1 (fun W => ∃ p : ι, W = ff p) _ _ (fun _ h => h) (HFS.out _ (HXC.out _ _ _ G8.out)) ?_
      refine wpSegs2_step (by simp only [pick, List.getElem?_cons_succ, List.getElem?_cons_zero]; rfl) (by simp only [pick, List.getElem?_cons_succ, List.getElem?_cons_zero]; rfl) rfl (fun K2 hK2 L2 hL2 => ?_)
      repeat (first | go_big_quiet_step (fail) | quiet_step (fail))
      refine wpQuiet_nil (hL2 _ ?_)
      repeat (first | go_big_quiet_step (fail) | quiet_step (fail))
      refine wpQuiet_nil ?_
      refine oper_boApp (enc := fun x : ByteArray => [.string x]) (hn := fun _ => rfl) _ _ _ rfl 9 i0 _ 16 Tryz.underlying59 hi0 hz0 hz1 hz2 rfl (by decide) (fun x u hu => by simp at hu; subst hu; rfl) w8 (.slice (some ⟨g8, 0, none⟩) (acc.length + b.gap) cap8) (acc ++ List.replicate b.gap (⟨#[]⟩ : ByteArray)) rfl G8.out b.lines A1 n1 q1 rfl ((HOW.out w8 G8.out.bel).sliF (F := fun _ => True) (enc := fun x : ByteArray => [.string x]) (hn := fun _ => rfl) (fun _ _ => trivial)) HN1.out (by rw [List.length_append, List.length_replicate]; unfold maxLen; omega) (by rw [List.length_append, List.length_replicate]; omega) ?_
      intro v9 w9 hB9
      have G9 := Lib.hid hB9
      have GA := Lib.hid (hB9.less (Q := []) (by simp))
      clear hB9 G8
      refine hK2 (fun W => ∃ p : ι, W = ff p) _ _ (fun _ h => h) (HFS.out _ (HXC.out _ _ _ G9.out)) ?_
      refine wpSegs2_fin (by simp only [pick, List.getElem?_cons_succ, List.getElem?_cons_zero]; rfl) (by simp only [pick, List.getElem?_cons_succ, List.getElem?_cons_zero]; rfl) (fun L3 hL3 => ?_)
      repeat (first | go_big_quiet_step (fail) | quiet_step (fail))
      refine wpQuiet_nil (hL3 _ ?_)
      repeat (first | go_big_quiet_step (fail) | quiet_step (fail))
      refine wpQuiet_nil ?_
      clear s0 s1 s2
      go_wp2
      go_roundw
      case rel => exact ⟨j + 1, by omega, intNum, Lib.hid (by rw [HTK.out]; exact GA.out)⟩
      case measure => simp [intOf]; omega
    · have HTK := Lib.hid (show linesB ((l.take j).map (·.1)) = linesS x by rw [List.take_of_length_le (by rw [HM.out]; omega)]; exact HLS.out)
      rw [HTK.out] at HO
      go_wp2
      go_ret
      exact ⟨_, rfl, HB5.out.trans (HO.out.bel.mono hz5), Own.less (enc := fun x : ByteArray => [.string x]) (hn := fun _ => rfl) HO.out.own hz5⟩
end Go.Proofs.YtnemcnpilngblaaGreatDoor

/- R.EighthsOf, walked. -/
namespace Go.Proofs.YtnemcnpilngblaaGreatDoor
set_option linter.unusedVariables false
open Go.RowKit Go.Sort

theorem mark_c (n : Nat) (w : World) (hn : n ≤ 300000000000000) : Calls Tryz.prog 102 #[.int .i64 (n : Int)] w fun e w' => e = .returned (.int .i64 (mk8 n : Int)) ∧ w = w' := by
  obtain ⟨_, f2, f3, f4, _⟩ := eig_facts (c := n) (n := 0) hn (by omega)
  rw [Nat.add_zero] at f2 f3 f4
  go_enter Tryz.func102, Tryz.ntmps102
  go_wp2
  go_ret
  exact ⟨rfl, rfl⟩
def EofP (xs : List Scene) (w : World) (e : Ending) (w' : World) : Prop := ∃ v, e = .returned (.tuple #[v, .int .i64 (mk8 (cntK xs xs.length) : Int)]) ∧ Below w.heap.size w w' ∧ Own intR w' w.heap.size w.heap.size 3 (eigK xs xs.length) v
set_option maxRecDepth 100000 in
set_option maxHeartbeats 8000000 in
theorem EighthsOf_c {F : Nat → Prop} (t : ByteArray) (ls : List (Scene × Value)) (v : Value) (w : World) (h : ScL w F t ls v) (hc : chkE ⟨t, ls.map (·.1)⟩ = 0) (hsp : SpLaid w) :
    Calls Tryz.prog 36 #[.agg #[.string t, v]] w (EofP (ls.map (·.1)) w) := by
  obtain ⟨i0, hi0, hz0, hz1, hz2⟩ := info_parts (show (Tryz.prog.info? 3).map (fun i => (i.zero, i.size, i.bytes)) = some (some (.int .i64 0), 1, 8) by kernel_rfl)
  obtain ⟨A, c, rfl, hlc, hcm⟩ := h.sli.form
  have hB := (Below.refl w.heap.size w).alloc (Nat.le_refl _) (.cells #[.string t, .slice A ls.length c] 44)
  have HB := Lib.hid hB
  have HH := Lib.hid (h.below hB)
  have HSP := Lib.hid (fun (W : World) (hb : Below w.heap.size w W) => sp_below hsp hb (Nat.le_refl _))
  have HOX := Lib.hid (fun (y : Scene × Value) (hy : y ∈ ls) => LnOk.of (chkE_ok hc) (y := y.1) (List.mem_map_of_mem hy))
  have hL3 : ls.length ≤ 300 := by have h := (chkE_ok hc).sn; rw [List.length_map] at h; exact h
  have HLN := Lib.hid (show ∀ x ∈ ls.map (·.1), (linesS x).length ≤ 60000000000 from fun x hx => by
    obtain ⟨y, hy, rfl⟩ := List.mem_map.1 hx
    exact linesS_len (HOX.out y hy))
  have y1 : (w.alloc (.cells #[.string t, .slice A ls.length c] 44)).cell? ⟨w.heap.size, 1, none⟩ = some (.slice A ls.length c) := (str_cells (heap_alloc_new w (.cells #[.string t, .slice A ls.length c] 44))).1 1
  have HY1 := Lib.hid y1
  obtain ⟨L, hL⟩ : ∃ L, ls.length = L := ⟨_, rfl⟩
  have HL := Lib.hid hL
  rw [hL] at HH hlc HB hL3 HY1 ⊢
  clear hL h hB hc hsp y1
  go_enter Tryz.func36, Tryz.ntmps36
  go_upto_region 1 with (fail)
  have y1 := HY1.out
  clear HY1
  generalize w.alloc (.cells #[.string t, .slice A L c] 44) = w2 at *
  have hzw2 := HB.out.size
  go_wp2
  go_loopw [4, 5, 12] (fun v ct i wr => ∃ k : Nat, k ≤ L ∧ i = .int .i64 k ∧ ct = .int .i64 (cntK (ls.map (·.1)) k : Int) ∧ Hid (BO intR 3 w2 (eigK (ls.map (·.1)) k) v [] wr)) (fun _ _ i _ => L - (intOf i).toNat)
  case atStart => exact ⟨0, Nat.zero_le _, rfl, rfl, BO.start w2⟩
  case round =>
    clear y1
    obtain ⟨k, hk, rfl, rfl, HO⟩ := hrel
    have hzr := HO.out.size
    by_cases hlt : k < L
    · have hkl : k < ls.length := by rw [HL.out]; exact hlt
      have hkm : k < (ls.map (·.1)).length := by rw [List.length_map]; exact hkl
      have HHr := Lib.hid (HH.out.below HO.out.bel)
      obtain ⟨b, off, rfl, hfb, c0, c1, c2, c3, c4⟩ := scAt HHr.out.sli k hkl
      have hsp := HHr.out.par _ (List.getElem_mem hkl)
      obtain ⟨A4, cc4, h4, _, _⟩ := hsp.form
      rw [h4] at c4
      rw [h4] at hsp
      have HLI := Lib.hid (fun W => LinesOf_c (F := F) (ls[k]'hkl).1 (.slice A4 (ls[k]'hkl).1.paras.length cc4) W)
      have HOK := Lib.hid (HOX.out _ (List.getElem_mem hkl))
      have hst := cntK_step hkm
      rw [List.getElem_map] at hst
      have hcl := cntK_le HLN.out k (by omega)
      have hn := HLN.out _ (List.mem_map_of_mem (List.getElem_mem hkl))
      have HES := Lib.hid (eigK_step (ls.map (·.1)) k)
      have hel : (eigK (ls.map (·.1)) k).length = k := by unfold eigK; simp
      have HSPA := Lib.hid (hsp.alloc (.cells #[.string (ls[k]'hkl).1.no, .int .i64 (ls[k]'hkl).1.place, .string (ls[k]'hkl).1.set, .int .i64 (ls[k]'hkl).1.time, .slice A4 (ls[k]'hkl).1.paras.length cc4] 69) HHr.out.lt)
      have HLT := Lib.hid HHr.out.lt
      generalize (ls[k]'hkl).1 = x at *
      obtain ⟨n, hn2⟩ : ∃ n, (linesS x).length = n := ⟨_, rfl⟩
      have HN := Lib.hid hn2
      rw [hn2] at hn hst
      rw [hst] at HES
      have HCK := Lib.hid hst
      clear hst
      generalize cntK (ls.map (·.1)) k = cn at *
      generalize eigK (ls.map (·.1)) k = acc at *
      obtain ⟨f1, _, _, _, f5⟩ := eig_facts (c := cn) (n := n) (by omega) hn
      have hsn : cn + n ≤ 300000000000000 := by omega
      generalize cn + n = sn at *
      have G6 := Lib.hid (HO.out.new #[.string x.no, .int .i64 x.place, .string x.set, .int .i64 x.time, .slice A4 x.paras.length cc4] 69)
      obtain ⟨A3, n3, q3, rfl⟩ := own_form HO.out.own
      clear hkl hkm h4 hsp HHr hn2 HO
      have hG7 := G6.out.less (Q := []) (by simp)
      go_upto_region 6 with (fail)
      generalize hW : wr.alloc (.cells #[.string x.no, .int .i64 x.place, .string x.set, .int .i64 x.time, .slice A4 x.paras.length cc4] 69) = w6 at *
      obtain ⟨e0, e1, e2, e3, e4⟩ := sc_cells (G6.out.cell (p := (wr.heap.size, #[.string x.no, .int .i64 x.place, .string x.set, .int .i64 x.time, .slice A4 x.paras.length cc4], 69)) (by simp))
      have hz6 : wr.heap.size ≤ w6.heap.size := by rw [← hW]; simp
      have G7 := Lib.hid hG7
      have HLL6 := Lib.hid (HLI.out w6 HSPA.out (fun b hb => by have := HLT.out b hb; omega) HOK.out (HSP.out w6 (HB.out.trans (hG7.bel.mono hzw2))))
      clear hW G6 hG7 HLI HSPA c0 c1 c2 c3 c4
      generalize wr.heap.size = X at *
      generalize x.paras.length = pl at *
      go_wp2_with fail
      refine (mark_c cn w6 (by omega)).mono ?_
      rintro e w' ⟨rfl, rfl⟩
      go_wp2_with fail
      refine HLL6.out.mono ?_
      rintro e w7 ⟨v7, rfl, hb7, ho7⟩
      have hn7 : ∃ A c, v7 = .slice A n c := by
        rcases ho7.form with ⟨h, h2⟩ | ⟨g, cp, h, _⟩
        · exact ⟨none, 0, by rw [h, ← HN.out, h2]; rfl⟩
        · exact ⟨_, cp, by rw [h, HN.out]⟩
      obtain ⟨A7, c7, rfl⟩ := hn7
      have G8 := Lib.hid (G7.out.below hb7)
      have hz7 := G8.out.size
      have GA := Lib.hid (G8.out.alloc (.cells #[.int .i64 ((mk8 sn : Int) - (mk8 cn : Int))] 3))
      clear hb7 ho7 G7 HLL6 e0 e1 e2 e3 e4
      go_wp2_with fail
      refine (mark_c sn w7 hsn).mono ?_
      rintro e w' ⟨rfl, rfl⟩
      go_wp2_with (at_builtin; (refine wpList_pushB (R := intR) rfl _ _ _ rfl w2.heap.size w2.heap.size 3 i0 _ 8 Tryz.underlying22 hi0 hz0 hz1 hz2 rfl (by decide) _ (.slice A3 n3 q3) acc rfl GA.out.own ((mk8 sn : Int) - (mk8 cn : Int)) _ rfl (oneC rfl) w7.heap.size _ _ (heap_alloc_new w7 _) rfl (by unfold maxLen; omega) (by omega) (by simp; omega) ?_); intro g cap8 w8 hown8 hg8 hat8 hlt8)
      go_roundw
      case rel =>
        rw [hel] at hown8
        exact ⟨k + 1, by omega, intNum, by rw [HCK.out], Lib.hid (by rw [HES.out]; exact GA.out.more hown8 hg8 rfl hat8)⟩
      case measure => simp [intOf]; omega
    · have hkL : k = L := by omega
      subst hkL
      have hcl := cntK_le HLN.out k (by rw [List.length_map, HL.out]; exact Nat.le_refl _)
      have HR := Lib.hid (show EofP (ls.map (·.1)) w (.returned (.tuple #[u4, .int .i64 (mk8 (cntK (ls.map (·.1)) k) : Int)])) wr from ⟨_, by rw [List.length_map, HL.out], HB.out.trans (HO.out.bel.mono hzw2), by rw [List.length_map, HL.out]; exact Own.less (enc := fun x : Int => [.int .i64 x]) (hn := fun _ => rfl) HO.out.own hzw2⟩)
      generalize cntK (ls.map (·.1)) k = cn at *
      go_wp2_with fail
      refine (mark_c cn wr (by omega)).mono ?_
      rintro e w' ⟨rfl, rfl⟩
      go_wp2
      go_ret2
      exact HR.out
end Go.Proofs.YtnemcnpilngblaaGreatDoor

