/- Texts packed: SheC, SheF. -/
import Derived.Test.YtndillbimibecaaGreatDoorSc44
import Derived.Test.YtndillbimibecaaGreatDoorSc43
/- The reference's sheet: room and put, walked. -/
namespace Go.Proofs.YtndillbimibecaaGreatDoor
set_option linter.unusedVariables false
open Go.RowKit Go.Sort

set_option maxRecDepth 100000 in
set_option maxHeartbeats 4000000 in
theorem room_c {W0 : World} (o : Nat) (Ps : List PgL) (pg : List ByteArray) (pv v : Value) (Rs : List Row) (X : List Pc) (w : World) (h : ShM W0 o (Ps ++ [(pg, pv)]) v Rs X w) (hl : pg.length ≤ 1000000) (hp : Ps.length ≤ 1000000000) :
    Calls Tryz.prog 102 #[.pointer (some ⟨o, 0, none⟩)] w (InP (54 - (pg.length : Int)) w) := by
  obtain ⟨⟨g, c, rfl, h1, _, h3, _, _⟩, ⟨A2, c2, rfl⟩, _⟩ := h.last
  obtain ⟨b1, _, b3⟩ := h.box
  have HB := Lib.hid (show Below w.heap.size w w.drew from ⟨rfl, rfl, rfl, Nat.le_refl _, fun _ _ => rfl⟩)
  have HB1 := Lib.hid (Below.refl w.heap.size w)
  clear h
  generalize pg.length = m at *
  generalize Ps.length = n at *
  have r1 : IntKind.i64.wrap ((n : Int) + 1 - 1) = (n : Int) := by rw [show (n : Int) + 1 - 1 = (n : Int) by omega]; exact IntWalk.i64_in _ (by omega)
  have r2 : IntKind.i64.wrap (n : Int) = (n : Int) := IntWalk.i64_in _ (by omega)
  have r3 : IntKind.i64.wrap (54 - (m : Int)) = 54 - (m : Int) := IntWalk.i64_in _ (by omega)
  have e0 : ((n : Int) + 1 == 0) = false := by rw [beq_eq_false_iff_ne]; omega
  go_enter Tryz.func102, Tryz.ntmps102
  go_upto_region 3 with (fail)
  go_region
  go_wp2
  go_ret
  exact ⟨rfl, by first | exact HB.out | exact HB1.out⟩
def PutP (W0 : World) (o : Nat) (Ps : List PgL) (pg : List ByteArray) (v : Value) (Rs : List Row) (X : List Pc) (e : Ending) (w' : World) : Prop := e = .returned (.tuple #[]) ∧ ∃ pv, ShM W0 o (Ps ++ [(pg, pv)]) v Rs X w'
set_option maxRecDepth 100000 in
set_option maxHeartbeats 4000000 in
theorem put_c {W0 : World} {F : Nat → Prop} (o : Nat) (Ps : List PgL) (pg : List ByteArray) (pv v : Value) (Rs : List Row) (X : List Pc) (ys : List ByteArray) (A : Option Addr) (m c : Nat) (w : World) (h : ShM W0 o (Ps ++ [(pg, pv)]) v Rs X w) (hy : Sli strR w F ys (.slice A m c)) (hm : ys.length = m) (hl : pg.length + m ≤ 1000000) (hp : Ps.length ≤ 1000000000) :
    Calls Tryz.prog 104 #[.pointer (some ⟨o, 0, none⟩), .slice A m c] w (PutP W0 o Ps (pg ++ ys) v Rs X) := by
  obtain ⟨i0, hi0, hz0, hz1, hz2⟩ := info_parts (show (Tryz.prog.info? 9).map (fun i => (i.zero, i.size, i.bytes)) = some (some (.string ⟨#[]⟩), 1, 16) by kernel_rfl)
  obtain ⟨⟨g, c1, rfl, h1, h2, h3, h4, h5⟩, ⟨A2, c2, rfl⟩, _⟩ := h.last
  obtain ⟨b1, b2, b3⟩ := h.box
  have HNE := Lib.hid h.ne
  have HFR := Lib.hid h.front.drew
  have HSY := Lib.hid hy.drew
  have HM := Lib.hid hm
  have HC := Lib.hid (And.intro b1 h1)
  clear h hy hm
  have r1 : IntKind.i64.wrap ((Ps.length : Int) + 1 - 1) = (Ps.length : Int) := by rw [show (Ps.length : Int) + 1 - 1 = (Ps.length : Int) by omega]; exact IntWalk.i64_in _ (by omega)
  have r2 : IntKind.i64.wrap (Ps.length : Int) = (Ps.length : Int) := IntWalk.i64_in _ (by omega)
  go_enter Tryz.func104, Tryz.ntmps104
  go_upto_region 1 with (fail)
  obtain ⟨ι, ff, hne, hff, hfS⟩ := family (fun W => W.cell? ⟨o, 0, none⟩ = some (.slice (some ⟨g, 0, none⟩) (Ps.length + 1) c1) ∧ W.cell? ⟨g, Ps.length, none⟩ = some (.slice A2 pg.length c2)) w HC.out
  have hneW : Nonempty World := ⟨w⟩
  have s0 := fun p => (hff p).1
  have s1 := fun p => (hff p).2
  have HFS := Lib.hid hfS
  clear hff hfS b1 h1
  refine wp_region_segs2 [13] [] [] [([0, 1, 2, 4, 5, 6, 7, 9, 12], [3, 8, 10, 11], 13), ([14], [], 15)] (by kernel_rfl) (by kernel_rfl) (fun _ _ _ dd _ h => by cases dd <;> exact h) (fun W => ∃ p : ι, W = ff p) (HFS.out _ HC.out) ?_
  refine wpSegs2_step (by simp only [pick, List.getElem?_cons_succ, List.getElem?_cons_zero]; rfl) (by simp only [pick, List.getElem?_cons_succ, List.getElem?_cons_zero]; rfl) rfl (fun K0 hK0 L0 hL0 => ?_)
  repeat (first | go_big_quiet_step (fail) | quiet_step (fail))
  refine wpQuiet_nil (hL0 _ ?_)
  repeat (first | go_big_quiet_step (fail) | quiet_step (fail))
  refine wpQuiet_nil ?_
  refine oper_mrApp _ _ _ rfl 9 i0 _ 16 Tryz.underlying55 hi0 hz0 hz1 hz2 rfl _ (.slice A2 pg.length c2) pg rfl HFR.out ys A m c rfl HSY.out HM.out (by unfold maxLen; omega) (by omega) ?_
  intro v' w' hM
  obtain ⟨A3, n3, c3, rfl⟩ : ∃ A n c, v' = .slice A n c := by
    obtain ⟨A, c, e⟩ := own_sl (hM.own _ (List.mem_cons_self ..))
    exact ⟨A, _, c, e⟩
  have hS := hM.perm (List.Perm.swap _ _ _)
  obtain ⟨g', c', eg, k1, k2, k3, _⟩ := hS.at_ (k := Ps.length) (by simp)
  obtain rfl : g = g' := by
    injection eg with e1 _ _
    injection e1 with e1
    injection e1
  have k1' : w'.cell? ⟨g, Ps.length, none⟩ = some (.slice A2 pg.length c2) := by rw [k1]; simp
  have q1 : w'.cell? ⟨o, 0, none⟩ = some (.slice (some ⟨g, 0, none⟩) (Ps.length + 1) c1) := (hM.cell (p := (o, #[.slice (some ⟨g, 0, none⟩) (Ps.length + 1) c1], 102)) (by simp)).1 0
  have HP := Lib.hid (ShM.put hM HNE.out)
  refine hK0 (fun W => ∃ p : ι, W = ff p) _ _ (fun _ h => h) (HFS.out _ ⟨q1, k1'⟩) ?_
  clear hM hS eg k1
  simp only [Act.put, List.setIfInBounds_toArray, List.set_cons_zero, List.set_cons_succ]
  refine wpSegs2_last (by simp only [pick, List.getElem?_cons_succ, List.getElem?_cons_zero]; rfl) (by simp only [pick, List.getElem?_cons_succ, List.getElem?_cons_zero]; rfl) rfl (by rfl) (fun K1 hK1 L1 hL1 => ?_)
  repeat (first | go_big_quiet_step (fail) | quiet_step (fail))
  refine wpQuiet_nil (hL1 _ ?_)
  repeat (first | go_big_quiet_step (fail) | quiet_step (fail))
  refine wpQuiet_nil ?_
  go_simp
  refine hK1 _ _ (wpSegs2_end ?_)
  clear s0 s1
  go_wp2
  go_end0
  exact ⟨rfl, _, HP.out⟩
end Go.Proofs.YtndillbimibecaaGreatDoor

/- R.sceneBlocks, walked: the blocks of all scenes. -/
namespace Go.Proofs.YtndillbimibecaaGreatDoor
set_option linter.unusedVariables false
open Go.RowKit Go.Sort

/-- The blocks of scenes, as they are only read. -/
abbrev ScB := List BkT × Value
structure RbS (w : World) (F : Nat → Prop) (L : List ScB) (v : Value) : Prop where
  sli : Sli valR w F (L.map (·.2)) v
  blk : ∀ y ∈ L, Sli rbR w F y.1 y.2
  ln : ∀ y ∈ L, ∀ x ∈ y.1, Sli strR w F x.1.lines x.2.1
  kd : ∀ y ∈ L, ∀ x ∈ y.1, Sli boR w F x.1.kinds x.2.2
theorem RbS.keep {w w' : World} {F G : Nat → Prop} {L : List ScB} {v : Value} (h : RbS w F L v) (hk : ∀ q, F q → w'.heap[q]? = w.heap[q]?) (hm : ∀ q, F q → G q) : RbS w' G L v :=
  ⟨(h.sli.keep hk).more hm, fun y hy => ((h.blk y hy).keep hk).more hm, fun y hy x hx => ((h.ln y hy x hx).keep hk).more hm, fun y hy x hx => ((h.kd y hy x hx).keep hk).more hm⟩
theorem RbS.below {w w' : World} {F : Nat → Prop} {L : List ScB} {v : Value} (h : RbS w F L v) (hb : Below w.heap.size w w') (hF : ∀ q, F q → q < w.heap.size) : RbS w' F L v := h.keep (fun q hq => hb.block q (hF q hq)) (fun _ hq => hq)
theorem RbN.parts {w wx : World} {l : List BkT} {v : Value} {P : List Pc} (h : RbN w l v P wx) : Sli rbR wx (fun q => w.heap.size ≤ q ∧ q < wx.heap.size) l v ∧ (∀ y ∈ l, Sli strR wx (fun q => w.heap.size ≤ q ∧ q < wx.heap.size) y.1.lines y.2.1) ∧ ∀ y ∈ l, Sli boR wx (fun q => w.heap.size ≤ q ∧ q < wx.heap.size) y.1.kinds y.2.2 := by
  refine ⟨h.bo.own.sli (fun b h1 h2 => ⟨h1, h2⟩) (fun g hg => h.bo.own.block g hg), fun y hy => ?_, fun y hy => ?_⟩
  · obtain ⟨j, hj⟩ := List.mem_iff_getElem?.1 hy
    have hr := Own.strs (h.row false j y hj).1
    exact hr.sli (fun b h1 h2 => ⟨h1, h2⟩) (fun g hg => hr.block g hg)
  · obtain ⟨j, hj⟩ := List.mem_iff_getElem?.1 hy
    have hr : Own valR wx w.heap.size w.heap.size 4 (y.1.kinds.map fun k : Nat => Value.bool (decide (k = 2))) y.2.2 := (h.row true j y hj).1
    have hq : Own boR wx w.heap.size w.heap.size 4 y.1.kinds y.2.2 := Own.recode hr (by simp) fun i x x' hx hx' => by rw [List.getElem?_map, hx'] at hx; cases hx; rfl
    exact hq.sli (fun b h1 h2 => ⟨h1, h2⟩) (fun g hg => hq.block g hg)
/-- A list under way of scenes' blocks. -/
abbrev SBF (w : World) (v : Value) (wx : World) (q : Nat) : Prop := w.heap.size ≤ q ∧ q < wx.heap.size ∧ v.ownBlock ≠ some q
structure SB (w : World) (L : List ScB) (v : Value) (wx : World) : Prop where
  bel : Below w.heap.size w wx
  own : Own valR wx w.heap.size w.heap.size 103 (L.map (·.2)) v
  blk : ∀ y ∈ L, Sli rbR wx (SBF w v wx) y.1 y.2
  ln : ∀ y ∈ L, ∀ x ∈ y.1, Sli strR wx (SBF w v wx) x.1.lines x.2.1
  kd : ∀ y ∈ L, ∀ x ∈ y.1, Sli boR wx (SBF w v wx) x.1.kinds x.2.2
section
variable {w wx wy : World} {L : List ScB} {v : Value}
theorem SB.start (w : World) : SB w [] (.slice none 0 0) w := ⟨Below.refl _ _, Own.nil_, (fun y hy => by cases hy), (fun y hy => by cases hy), (fun y hy => by cases hy)⟩
theorem SB.below (h : SB w L v wx) (hb : Below wx.heap.size wx wy) : SB w L v wy := by
  have key : ∀ {α : Type} {R : Rep α} (k : List α) z, Sli R wx (SBF w v wx) k z → Sli R wy (SBF w v wy) k z := fun k z hs =>
    (hs.below hb (fun q hq => hq.2.1)).more fun q hq => ⟨hq.1, Nat.lt_of_lt_of_le hq.2.1 hb.size, hq.2.2⟩
  exact ⟨h.bel.trans (hb.mono h.bel.size), h.own.below hb, fun y hy => key _ _ (h.blk y hy), fun y hy x hx => key _ _ (h.ln y hy x hx), fun y hy x hx => key _ _ (h.kd y hy x hx)⟩
theorem SB.alloc (h : SB w L v wx) (o : Obj) : SB w L v (wx.alloc o) := h.below ((Below.refl _ wx).alloc (Nat.le_refl _) o)
theorem SB.push {y : ScB} {v' : Value} {g : Nat} (h : SB w L v wx) (hown : Own valR wy w.heap.size w.heap.size 103 ((L ++ [y]).map (·.2)) v') (hg : wx.grownBy wy v.ownBlock) (hv : v'.ownBlock = some g) (hat : v.ownBlock = some g ∨ g = wx.heap.size)
    (h1 : Sli rbR wx (SBF w v wx) y.1 y.2) (h2 : ∀ x ∈ y.1, Sli strR wx (SBF w v wx) x.1.lines x.2.1) (h3 : ∀ x ∈ y.1, Sli boR wx (SBF w v wx) x.1.kinds x.2.2) : SB w (L ++ [y]) v' wy := by
  have hne : ∀ q, q < wx.heap.size → v.ownBlock ≠ some q → v'.ownBlock ≠ some q := fun q hq hn e => by
    rw [hv] at e
    injection e with e
    rcases hat with hat | hat
    · exact hn (by rw [hat, e])
    · omega
  have key : ∀ {α : Type} {R : Rep α} (k : List α) z, Sli R wx (SBF w v wx) k z → Sli R wy (SBF w v' wy) k z := fun k z hs =>
    (hs.keep fun q hq => hg.block q hq.2.1 fun e => hq.2.2 e.symm).more fun q hq => ⟨hq.1, Nat.lt_of_lt_of_le hq.2.1 hg.size, hne q hq.2.1 hq.2.2⟩
  refine ⟨h.bel.grown hg h.bel.size (fun q hq => (h.own.block q hq).1), hown, fun z hz => ?_, fun z hz x hx => ?_, fun z hz x hx => ?_⟩
  · rcases List.mem_append.1 hz with hz | hz
    · exact key _ _ (h.blk z hz)
    · rw [List.mem_singleton] at hz; subst hz; exact key _ _ h1
  · rcases List.mem_append.1 hz with hz | hz
    · exact key _ _ (h.ln z hz x hx)
    · rw [List.mem_singleton] at hz; subst hz; exact key _ _ (h2 x hx)
  · rcases List.mem_append.1 hz with hz | hz
    · exact key _ _ (h.kd z hz x hx)
    · rw [List.mem_singleton] at hz; subst hz; exact key _ _ (h3 x hx)
theorem SB.fresh {α : Type} {R : Rep α} {k : List α} {z : Value} (h : SB w L v wx) (hz : wx.heap.size ≤ wy.heap.size) (hs : Sli R wy (fun q => wx.heap.size ≤ q ∧ q < wy.heap.size) k z) : Sli R wy (SBF w v wy) k z :=
  hs.more fun q hq => ⟨Nat.le_trans h.bel.size hq.1, hq.2, fun e => by have := (h.own.block q e).2; omega⟩
end
def ScbP (xs : List Scene) (w : World) (e : Ending) (w' : World) : Prop := ∃ (L : List ScB) (v : Value), e = .returned v ∧ L.map (fun y => y.1.map (·.1)) = xs.map blocksS ∧ Below w.heap.size w w' ∧ RbS w' (fun q => w.heap.size ≤ q ∧ q < w'.heap.size) L v
set_option maxRecDepth 100000 in
set_option maxHeartbeats 4000000 in
theorem sceneBlocks_c {F : Nat → Prop} (t : ByteArray) (ls : List (Scene × Value)) (v : Value) (w : World) (h : ScL w F t ls v) (hok : ∀ y ∈ ls, LnOk y.1) (hln : ls.length ≤ 91) (hsp : SpLaid w) :
    Calls Tryz.prog 26 #[.agg #[.string t, v]] w (ScbP (ls.map (·.1)) w) := by
  obtain ⟨i1, hi1, hy0, hy1, hy2⟩ := info_parts (show (Tryz.prog.info? 103).map (fun i => (i.zero, i.size, i.bytes)) = some (some (.slice none 0 0), 1, 24) by kernel_rfl)
  obtain ⟨A, c, rfl, hlc, hcm⟩ := h.sli.form
  obtain ⟨L, hL⟩ : ∃ L, ls.length = L := ⟨_, rfl⟩
  have HL := Lib.hid hL
  have HSC := Lib.hid (fun (W : World) (hb : Below w.heap.size w W) => h.below hb)
  have HOK := Lib.hid hok
  have HSP := Lib.hid (fun (W : World) (hb : Below w.heap.size w W) => sp_below hsp hb (Nat.le_refl _))
  have HB := Lib.hid ((Below.refl w.heap.size w).alloc (Nat.le_refl _) (.cells #[.string t, .slice A L c] 28))
  have HC0 := (str_cells (heap_alloc_new w (.cells #[.string t, .slice A L c] 28))).1
  have hzw : w.heap.size < (w.alloc (.cells #[.string t, .slice A L c] 28)).heap.size := by simp
  rw [hL] at hln hlc HSC ⊢
  clear h hok hsp hL
  go_enter Tryz.func26, Tryz.ntmps26
  go_upto_region 1 with (fail)
  generalize w.alloc (.cells #[.string t, .slice A L c] 28) = W0 at *
  have d1 : W0.cell? ⟨w.heap.size, 1, none⟩ = some (.slice A L c) := HC0 1
  clear HC0
  go_wp2
  go_loopw [3, 9] (fun v i wr => ∃ (k : Nat) (M : List ScB), k ≤ L ∧ i = .int .i64 k ∧ M.length = k ∧ Hid (M.map (fun y => y.1.map (·.1)) = ((ls.take k).map (·.1)).map blocksS) ∧ Hid (SB W0 M v wr)) (fun _ i _ => L - (intOf i).toNat)
  case atStart => exact ⟨0, [], Nat.zero_le _, rfl, rfl, rfl, SB.start W0⟩
  case round =>
    clear d1
    obtain ⟨k, M, hk, rfl, hml, HK, HG⟩ := hrel
    obtain ⟨A3, q3, e3⟩ := own_sl HG.out.own
    rw [List.length_map, hml] at e3
    subst e3
    by_cases hlt : k < L
    · have hkl : k < ls.length := by rw [HL.out]; exact hlt
      have HBr := Lib.hid (HB.out.trans (HG.out.bel.mono (by omega)))
      have hHr := HSC.out _ HBr.out
      obtain ⟨b, off, rfl, hfb, c0, c1, c2, c3, c4⟩ := scAt hHr.sli k hkl
      have hsp := (HSC.out w (Below.refl _ _)).par _ (List.getElem_mem hkl)
      obtain ⟨A4, cc4, h4, _, _⟩ := hsp.form
      rw [h4] at c4
      rw [h4] at hsp
      have HPA := Lib.hid (fun (W : World) (hb : Below w.heap.size w W) => show Sli paraR W F (ls[k]'hkl).1.paras (.slice A4 (ls[k]'hkl).1.paras.length cc4) ∧ (∀ q, F q → q < W.heap.size) from ⟨hsp.below hb (HSC.out w (Below.refl _ _)).lt, (HSC.out W hb).lt⟩)
      have HOx := Lib.hid (HOK.out _ (List.getElem_mem hkl))
      have HF2 := Lib.hid (show ((ls.take (k + 1)).map (·.1)).map blocksS = ((ls.take k).map (·.1)).map blocksS ++ [blocksS (ls[k]'hkl).1] by
        rw [List.take_succ_eq_append_getElem hkl, List.map_append, List.map_append, List.map_cons, List.map_cons, List.map_nil, List.map_nil])
      generalize (ls[k]'hkl).1 = x at *
      have hG6 := HG.out.alloc (.cells #[.string x.no, .int .i64 x.place, .string x.set, .int .i64 x.time, .slice A4 x.paras.length cc4] 49)
      have hx6 := heap_alloc_new wr (.cells #[.string x.no, .int .i64 x.place, .string x.set, .int .i64 x.time, .slice A4 x.paras.length cc4] 49)
      have hzr := HG.out.bel.size
      clear hkl h4 hsp hHr HG
      go_upto_region 5 with (fail)
      generalize hW : wr.alloc (.cells #[.string x.no, .int .i64 x.place, .string x.set, .int .i64 x.time, .slice A4 x.paras.length cc4] 49) = w6 at *
      generalize wr.heap.size = X at *
      have HB8 := Lib.hid (HB.out.trans (hG6.bel.mono (by omega)))
      obtain ⟨e0, e1, e2, e3, e4⟩ := sc_cells (str_cells hx6)
      have HBL := Lib.hid (blocksOf_c x (.slice A4 x.paras.length cc4) w6 (HPA.out w6 HB8.out).1 (HPA.out w6 HB8.out).2 HOx.out (HSP.out w6 HB8.out))
      have G8 := Lib.hid hG6
      clear hW hG6 hx6 c0 c1 c2 c3 c4
      generalize x.paras.length = pl at *
      go_wp2_with fail
      refine HBL.out.mono ?_
      rintro e w9 ⟨l2, v2, rfl, hl2, hN2⟩
      obtain ⟨s1, s2, s3⟩ := hN2.parts
      obtain ⟨A2, c2, rfl, _, _⟩ := s1.form
      have G9 := Lib.hid ((G8.out.below hN2.bo.bel).alloc (.cells #[.slice A2 l2.length c2] 103))
      have hzw9 := (G8.out.below hN2.bo.bel).bel.size
      have hal := (Below.refl w9.heap.size w9).alloc (Nat.le_refl _) (.cells #[.slice A2 l2.length c2] 103)
      have hz98 := hN2.bo.bel.size
      have key : ∀ {α : Type} {R : Rep α} (kk : List α) z, Sli R w9 (fun q => w6.heap.size ≤ q ∧ q < w9.heap.size) kk z → Sli R (w9.alloc (.cells #[.slice A2 l2.length c2] 103)) (SBF W0 (.slice A3 k q3) (w9.alloc (.cells #[.slice A2 l2.length c2] 103))) kk z := fun kk z hs =>
        ((G8.out.fresh hz98 hs).below hal (fun q hq => hq.2.1)).more fun q hq => ⟨hq.1, by have := hq.2.1; have := hal.size; omega, hq.2.2⟩
      have HP2 := Lib.hid (And.intro (key _ _ s1) (And.intro (fun y hy => key _ _ (s2 y hy)) (fun y hy => key _ _ (s3 y hy))))
      have HL2 := Lib.hid (show (M ++ [(l2, Value.slice A2 l2.length c2)]).map (fun y => y.1.map (·.1)) = ((ls.take (k + 1)).map (·.1)).map blocksS by rw [List.map_append, HK.out, HF2.out, List.map_cons, List.map_nil, hl2])
      have HMM := Lib.hid (show (M.map (·.2)).length = k by rw [List.length_map]; exact hml)
      clear hN2 s1 s2 s3 hl2 HBL G8 e0 e1 e2 e3 e4 key hal
      go_wp2_with (at_builtin; (refine wpList_pushB (R := valR) rfl _ _ _ rfl W0.heap.size W0.heap.size 103 i1 _ 24 Tryz.underlying68 hi1 hy0 hy1 hy2 rfl (by decide) _ (.slice A3 k q3) (M.map (·.2)) rfl G9.out.own (.slice A2 l2.length c2) _ rfl (oneC rfl) w9.heap.size _ _ (heap_alloc_new w9 _) rfl (by rw [HMM.out]; unfold maxLen; omega) (by rw [HMM.out]; omega) (by simp; omega) ?_); rw [HMM.out]; intro g2 capA wA hownA hgA hatA hltA)
      go_roundw
      case rel => exact ⟨k + 1, M ++ [(l2, Value.slice A2 l2.length c2)], by omega, intNum, by rw [List.length_append, List.length_singleton, hml], HL2, Lib.hid (by
        have h := G9.out.push (y := (l2, Value.slice A2 l2.length c2)) (by rw [List.map_append]; exact hownA) hgA rfl hatA HP2.out.1 HP2.out.2.1 HP2.out.2.2
        exact h)⟩
      case measure => simp [intOf]; omega
    · have hkL : k = L := by omega
      subst hkL
      have hall : ((ls.take k).map (·.1)).map blocksS = (ls.map (·.1)).map blocksS := by rw [List.take_of_length_le (by rw [HL.out]; omega)]
      have HR := Lib.hid (show ScbP (ls.map (·.1)) w (.returned (.slice A3 k q3)) wr from ⟨M, _, rfl, HK.out.trans hall, HB.out.trans (HG.out.bel.mono (by omega)),
        ⟨Own.sliF (enc := fun v : Value => [v]) (hn := fun _ => rfl) HG.out.own (fun g hg => by have := HG.out.own.block g hg; exact ⟨by omega, this.2⟩), fun y hy => (HG.out.blk y hy).more fun q hq => ⟨by have := hq.1; omega, hq.2.1⟩, fun y hy x hx => (HG.out.ln y hy x hx).more fun q hq => ⟨by have := hq.1; omega, hq.2.1⟩, fun y hy x hx => (HG.out.kd y hy x hx).more fun q hq => ⟨by have := hq.1; omega, hq.2.1⟩⟩⟩)
      go_wp2
      go_ret
      exact HR.out
end Go.Proofs.YtndillbimibecaaGreatDoor

