/- Texts packed: PaF, PaO, PaP, LkA, LkC, LkB, LiW, EdB, KpZ, KqA, KqB, KqC, KqD. -/
import Derived.Test.YtnnnmbipmfopmaaGreatDoorSc40
import Derived.Test.YtnnnmbipmfopmaaGreatDoorSc37
import Derived.Test.YtnnnmbipmfopmaaGreatDoorSc02
import Derived.Test.YtnnnmbipmfopmaaGreatDoorSc16
import Derived.Test.YtnnnmbipmfopmaaGreatDoorSc28
import Derived.Test.YtnnnmbipmfopmaaGreatDoorSc25
import Derived.Deep.CutBlock
import Derived.Test.YtnnnmbipmfopmaaGreatDoorSc01
import Derived.Test.YtnnnmbipmfopmaaGreatDoorSc29
import Derived.Test.YtnnnmbipmfopmaaGreatDoorSc33
import Derived.Test.YtnnnmbipmfopmaaGreatDoorSc22
import Derived.Deep.DeepCutAuto
import Derived.BigRegion
import Derived.BigQuiet
/- paper.Lay, walked, with the numbers of the blocks that begin pages. -/
namespace Go.Proofs.YtnnnmbipmfopmaaGreatDoor
set_option linter.unusedVariables false
open Go.RowKit Go.Sort

abbrev FrQ := List Value × Int
def frN (d : Nat) (fs : List Value) (fi : Int) : FrQ := if d = 0 then (fs, fi) else (fs ++ .int .i64 fi :: List.replicate (d - 1) (.int .i64 (-1)), -1)
theorem frN_succ {d : Nat} {fs fs' : List Value} {fi fi' : Int} (h : (fs', fi') = frN d fs fi) : (fs' ++ [.int .i64 fi'], -1) = frN (d + 1) fs fi := by
  unfold frN at h ⊢
  rw [if_neg (by omega)]
  by_cases h0 : d = 0
  · rw [if_pos h0] at h
    injection h with h1 h2
    subst h1 h2 h0
    rfl
  · rw [if_neg h0] at h
    injection h with h1 h2
    subst h1 h2
    obtain ⟨e, rfl⟩ : ∃ e, d = e + 1 := ⟨d - 1, by omega⟩
    rw [Nat.add_sub_cancel, Nat.add_sub_cancel, List.replicate_succ', List.append_assoc, List.cons_append]
/-- The blocks that begin pages: those noted, the one of the page at hand. -/
def layF : List Blk → Nat → List (List ByteArray) → List ByteArray → FrQ → FrQ
  | [], _, _, _, F => F
  | b :: r, i, P, pg, F =>
    let P1 := if topB b r pg = true ∧ ¬ pg = [] then P ++ [pg] else P
    let pg1 := if topB b r pg = true then [] else pg ++ List.replicate b.gap ⟨#[]⟩
    let q := fillB b (b.lines.length + 1) 0 P1 pg1
    let F1 : FrQ := if topB b r pg = true ∧ ¬ pg = [] then (F.1 ++ [.int .i64 F.2], -1) else F
    layF r (i + 1) q.1 q.2 (frN (q.1.length - P1.length) F1.1 (if topB b r pg = true then (i : Int) else F1.2))
def frsB (l : List Blk) : List Value := (layF l 0 [] [] ([], -1)).1 ++ (if (layB l [] [] []).2.1 = [] then [] else [.int .i64 (layF l 0 [] [] ([], -1)).2])
def FlP2 (w : World) (o p f : Nat) (Ps : List (List ByteArray × Value)) (fs : List Value) (st : List Nat) (sV : Value) (X : List Pc) (e : Ending) (w' : World) : Prop := e = .returned (.tuple #[]) ∧ ∃ pgV fV, LyM w o p f Ps [] (.slice none 0 0) pgV fs fV st sV (-1) X w'
set_option maxRecDepth 100000 in
set_option maxHeartbeats 4000000 in
theorem flush2_c (w0 : World) (o p f : Nat) (Ps : List (List ByteArray × Value)) (pg : List ByteArray) (pv pgV : Value) (fs : List Value) (fV : Value) (st : List Nat) (sV : Value) (fi : Int) (X : List Pc) (w : World) (h : LyM w0 o p f Ps pg pv pgV fs fV st sV fi X w) (hl : Ps.length ≤ 1000000000) :
    Calls Tryz.prog 85 #[.pointer (some ⟨o, 0, none⟩), .pointer (some ⟨p, 0, none⟩), .pointer (some ⟨f, 0, none⟩)] w (FlP2 w0 o p f (Ps ++ [(pg, pv)]) (fs ++ [.int .i64 fi]) st sV X) := by
  obtain ⟨i1, hi1, hy0, hy1, hy2⟩ := info_parts (show (Tryz.prog.info? 26).map (fun i => (i.zero, i.size, i.bytes)) = some (some (.slice none 0 0), 1, 24) by kernel_rfl)
  obtain ⟨i2, hi2, hx0, hx1, hx2⟩ := info_parts (show (Tryz.prog.info? 3).map (fun i => (i.zero, i.size, i.bytes)) = some (some (.int .i64 0), 1, 8) by kernel_rfl)
  obtain ⟨⟨c0, c1, c2, c3, c4⟩, k1, k2, k3⟩ := h.cells
  obtain ⟨⟨A1, q1, rfl⟩, ⟨A2, q2, rfl⟩, ⟨A3, q3, rfl⟩, ⟨A4, q4, rfl⟩⟩ := h.form
  have hne := h.ne
  have HNE := Lib.hid hne
  have hfl := h.fl
  have H1 := Lib.hid (MR.pick (a := [(9, pg.map Value.string, .slice A1 pg.length q1)]) h.mr)
  clear h
  obtain ⟨n, hn⟩ : ∃ n, Ps.length = n := ⟨_, rfl⟩
  have HN := Lib.hid (show (Ps.map (·.2)).length = n by rw [List.length_map]; exact hn)
  rw [hfl, hn] at H1 c1
  rw [hn] at c0 hl hfl
  have HF := Lib.hid hfl
  generalize pg.length = m at *
  generalize st.length = sn at *
  clear hfl hn
  go_enter Tryz.func85, Tryz.ntmps85
  go_upto_region 1 with (at_builtin; (refine wpList_mrPush rfl _ _ _ rfl 26 i1 _ 24 Tryz.underlying83 hi1 hy0 hy1 hy2 rfl _ (.slice A2 n q2) (Ps.map (·.2)) n HN.out rfl (H1.out.alloc (.cells #[.slice A1 m q1] 26)) (.slice A1 m q1) rfl w.heap.size _ _ (heap_alloc_new w _) rfl (by unfold maxLen; omega) (by omega) ?_); intro g7 cap7 w7 H7; have d0 := (H7.cell (p := (o, #[.slice A2 n q2, .slice A3 n q3, .slice A4 sn q4], 109)) (by simp)).1 0; have f0 := (H7.cell (p := (o, #[.slice A2 n q2, .slice A3 n q3, .slice A4 sn q4], 109)) (by simp)).2 0)
  have HP := Lib.hid (MR.pick (a := [(26, Ps.map (·.2) ++ [.slice A1 m q1], .slice (some ⟨g7, 0, none⟩) (n + 1) cap7), (9, pg.map Value.string, .slice A1 m q1)]) (H7.set (i := 0) (.slice (some ⟨g7, 0, none⟩) (n + 1) cap7) (fun q hq => by
    simp only [List.mem_cons] at hq
    rcases hq with rfl | rfl | hq
    · exact fun e => HNE.out.1 e.symm
    · exact fun e => HNE.out.2.1 e.symm
    · exact (HNE.out.2.2.2 q hq).1)))
  clear H7 H1 d0 f0 c0 c1 c2 c3 c4 k1 k2 k3
  generalize w7.setCell ⟨o, 0, none⟩ (.slice (some ⟨g7, 0, none⟩) (n + 1) cap7) = w8 at *
  obtain ⟨a8, b8⟩ := HP.out.cell (p := (o, #[.slice (some ⟨g7, 0, none⟩) (n + 1) cap7, .slice A3 n q3, .slice A4 sn q4], 109)) (by simp)
  have a1 : w8.cell? ⟨o, 1, none⟩ = some (.slice A3 n q3) := a8 1
  have a4 : w8.cell? ⟨f, 0, none⟩ = some (.int .i64 fi) := (HP.out.cell (p := (f, #[.int .i64 fi], 3)) (by simp)).1 0
  clear a8
  go_upto_region 2 with (at_builtin; (refine wpList_mrPush rfl _ _ _ rfl 3 i2 _ 8 Tryz.underlying22 hi2 hx0 hx1 hx2 rfl _ (.slice A3 n q3) fs n HF.out rfl (HP.out.alloc (.cells #[.int .i64 fi] 3)) (.int .i64 fi) rfl w8.heap.size _ _ (heap_alloc_new w8 _) rfl (by unfold maxLen; omega) (by omega) ?_); intro g9 cap9 w9 H9; have d1 := (H9.cell (p := (o, #[.slice (some ⟨g7, 0, none⟩) (n + 1) cap7, .slice A3 n q3, .slice A4 sn q4], 109)) (by simp)).1 1; have f1 := (H9.cell (p := (o, #[.slice (some ⟨g7, 0, none⟩) (n + 1) cap7, .slice A3 n q3, .slice A4 sn q4], 109)) (by simp)).2 1)
  have HQ := Lib.hid (H9.set (i := 1) (.slice (some ⟨g9, 0, none⟩) (n + 1) cap9) (fun q hq => by
    simp only [List.mem_cons] at hq
    rcases hq with rfl | rfl | hq
    · exact fun e => HNE.out.1 e.symm
    · exact fun e => HNE.out.2.1 e.symm
    · exact (HNE.out.2.2.2 q hq).1))
  clear H9 HP d1 f1 a1 a4 b8
  generalize w9.setCell ⟨o, 1, none⟩ (.slice (some ⟨g9, 0, none⟩) (n + 1) cap9) = wA at *
  have hp := MR.p2 HQ.out
  have hp2 := hp.set (i := 0) (.slice none 0 0) (fun q hq => by
    simp only [List.mem_cons] at hq
    rcases hq with rfl | rfl | hq
    · exact HNE.out.1
    · exact fun e => HNE.out.2.2.1 e.symm
    · exact (HNE.out.2.2.2 q hq).2.1)
  have hp3 := (MR.p3 hp2).set (i := 0) (.int .i64 (-1)) (fun q hq => by
    simp only [List.mem_cons] at hq
    rcases hq with rfl | rfl | hq
    · exact HNE.out.2.2.1
    · exact HNE.out.2.1
    · exact (HNE.out.2.2.2 q hq).2.2)
  have HZ := Lib.hid (MR.p2 (MR.p3' hp3))
  have e0 : wA.cell? ⟨p, 0, none⟩ = some (.slice A1 m q1) := (HQ.out.cell (p := (p, #[.slice A1 m q1], 26)) (by simp)).1 0
  have e1 := (HQ.out.cell (p := (p, #[.slice A1 m q1], 26)) (by simp)).2 0
  have e2 : (wA.setCell ⟨p, 0, none⟩ (.slice none 0 0)).cell? ⟨f, 0, none⟩ = some (.int .i64 fi) := (hp2.cell (p := (f, #[.int .i64 fi], 3)) (by simp)).1 0
  have e3 := (hp2.cell (p := (f, #[.int .i64 fi], 3)) (by simp)).2 0
  clear hp hp2 hp3 HQ
  go_wp2
  go_end0
  refine ⟨rfl, .slice (some ⟨g7, 0, none⟩) (n + 1) cap7, .slice (some ⟨g9, 0, none⟩) (n + 1) cap9, ?_, ?_, HNE.out⟩
  · have h := HZ.out.nil 9
    refine (h.perm ?_)
    simp only [List.map_append, List.map_cons, List.map_nil]
    refine List.Perm.cons _ ?_
    exact (List.Perm.swap _ _ _).trans (((List.perm_append_singleton _ (_ :: _)).symm.cons _).cons _)
  · rw [List.length_append, HF.out, List.length_append]
    have := HN.out
    rw [List.length_map] at this
    rw [this]
    rfl
def LayP2 (w : World) (l : List Blk) (e : Ending) (w' : World) : Prop := ∃ (Ps : List (List ByteArray × Value)) (pgV fV sV : Value), e = .returned (.agg #[pgV, fV, sV]) ∧ Ps.map (·.1) = pagesB l ∧ (frsB l).length = Ps.length ∧
  MR w ((26, Ps.map (·.2), pgV) :: (3, (layB l [] [] []).2.2.map (fun k : Nat => Value.int .i64 (k : Int)), sV) :: (3, frsB l, fV) :: Ps.map (fun q => (9, q.1.map Value.string, q.2))) [] w'
set_option maxRecDepth 100000 in
set_option maxHeartbeats 16000000 in
theorem Lay2_c {F : Nat → Prop} (l : List BkT) (A : Option Addr) (c M : Nat) (w : World) (h : BkL w F l (.slice A l.length c)) (hgd : ∀ x ∈ l, GoodB x.1) (hok : ∀ x ∈ l, BkOk x.1) (hM : ∀ x ∈ l, x.1.lines.length ≤ M) (hM1 : M ≤ 1000000) (hLM : l.length * (M + 2) ≤ 1000000000) :
    Calls Tryz.prog 55 #[.slice A l.length c] w (LayP2 w (l.map (·.1))) := by
  obtain ⟨i0, hi0, hz0, hz1, hz2⟩ := info_parts (show (Tryz.prog.info? 9).map (fun i => (i.zero, i.size, i.bytes)) = some (some (.string ⟨#[]⟩), 1, 16) by kernel_rfl)
  obtain ⟨i2, hj2, hx0, hx1, hx2⟩ := info_parts (show (Tryz.prog.info? 3).map (fun i => (i.zero, i.size, i.bytes)) = some (some (.int .i64 0), 1, 8) by kernel_rfl)
  have HH := Lib.hid h
  have HGD := Lib.hid hgd
  have HOK := Lib.hid hok
  have HM := Lib.hid hM
  obtain ⟨L, hL⟩ : ∃ L, l.length = L := ⟨_, rfl⟩
  have HL := Lib.hid hL
  have m0 := ((((MR.start w).new #[.slice none 0 0, .slice none 0 0, .slice none 0 0] 109).new #[.slice none 0 0, .slice none 0 0, .slice none 0 0] 109).new #[.slice none 0 0] 26).new #[.int .i64 (-1)] 3
  have m1 := (((m0.nil 3).nil 3).nil 26).nil 9
  clear h hgd hok hM m0
  go_enter Tryz.func55, Tryz.ntmps55
  go_upto_region 4 with (fail)
  generalize hW : (((w.alloc (.cells #[.slice none 0 0, .slice none 0 0, .slice none 0 0] 109)).alloc (.cells #[.slice none 0 0, .slice none 0 0, .slice none 0 0] 109)).alloc (.cells #[.slice none 0 0] 26)).alloc (.cells #[.int .i64 (-1)] 3) = W0 at *
  simp only [World.size_alloc] at m1
  obtain ⟨o, ho⟩ : ∃ o, w.heap.size + 1 = o := ⟨_, rfl⟩
  obtain ⟨p, hp⟩ : ∃ p, o + 1 = p := ⟨_, rfl⟩
  obtain ⟨f, hf⟩ : ∃ f, p + 1 = f := ⟨_, rfl⟩
  rw [ho, hp, hf] at m1 ⊢
  have hw0 : w.heap.size < o := by omega
  have G0 := Lib.hid (show LyM w o p f [] [] (.slice none 0 0) (.slice none 0 0) [] (.slice none 0 0) [] (.slice none 0 0) (-1) [(w.heap.size, #[.slice none 0 0, .slice none 0 0, .slice none 0 0], 109)] W0 from
    ⟨m1.less fun q hq => by
      simp only [List.mem_cons, List.not_mem_nil, or_false] at hq ⊢
      rcases hq with h | h | h | h <;> simp [h], rfl, by omega, by omega, by omega, fun x hx => by
      rw [List.mem_singleton] at hx
      subst hx
      exact ⟨by dsimp only; omega, by dsimp only; omega, by dsimp only; omega⟩⟩)
  clear m1 ho hp hf hW
  rw [hL]
  rw [hL] at HH hLM
  clear hL
  have hL9 : L ≤ 1000000000 := Nat.le_trans (Nat.le_mul_of_pos_right L (by omega)) hLM
  go_wp2
  go_loopw [15] (fun iv wr => ∃ (i : Nat) (Ps : List (List ByteArray × Value)) (pg : List ByteArray) (pv pgV : Value) (fs : List Value) (fV : Value) (st : List Nat) (sV : Value) (fi : Int), i ≤ L ∧ iv = .int .i64 i ∧ pg.length ≤ 54 ∧ Ps.length ≤ i * (M + 2) ∧ st.length = i
    ∧ Hid (layB ((l.drop i).map (·.1)) (Ps.map (·.1)) pg st = layB (l.map (·.1)) [] [] []) ∧ Hid (layF ((l.drop i).map (·.1)) i (Ps.map (·.1)) pg (fs, fi) = layF (l.map (·.1)) 0 [] [] ([], -1)) ∧ Hid (LyM w o p f Ps pg pv pgV fs fV st sV fi [(w.heap.size, #[.slice none 0 0, .slice none 0 0, .slice none 0 0], 109)] wr)) (fun iv _ => L - (intOf iv).toNat)
  case atStart => exact ⟨0, [], [], _, _, [], _, [], _, -1, Nat.zero_le _, rfl, by decide, Nat.zero_le _, rfl, rfl, rfl, G0.out⟩
  case round =>
    clear G0
    obtain ⟨i, Ps, pg, pv, pgV, fs, fV, st, sV, fi, hi, rfl, hpl, hPl, hsl, HY, HYF, HG⟩ := hrel
    have HSI := Lib.hid hsl
    have hsi : st.length ≤ 1000000000 := by omega
    clear hsl
    by_cases hlt : i < L
    · have hi2 : i < l.length := by rw [HL.out]; exact hlt
      obtain ⟨b, off, e0, hFb, c0, c1, c2, c3, A1, q1, A2, n2, q2, e1, e2⟩ := (HH.out.below HG.out.mr.bel).at_ i hi2
      subst e0
      have hmem := List.getElem_mem hi2
      have hbw : b < wr.heap.size := Nat.lt_of_lt_of_le (HH.out.lt b hFb) HG.out.mr.size
      have HX := Lib.hid (And.intro (HGD.out _ hmem) (And.intro (HOK.out _ hmem) (HM.out _ hmem)))
      have HLN := Lib.hid (HH.out.ln _ hmem)
      have HKD := Lib.hid (HH.out.kd _ hmem)
      have HDR := Lib.hid (show (l.drop i).map (·.1) = (l[i]'hi2).1 :: (l.drop (i + 1)).map (·.1) by rw [List.drop_eq_getElem_cons hi2, List.map_cons])
      have HHD := Lib.hid (fun (W : World) (hb : Below w.heap.size w W) => head_c l (some ⟨b, off, none⟩) c i W (by rw [HL.out]; exact HH.out.below hb) hi2 (by rw [HL.out]; omega) HOK.out)
      rw [e1] at c1 HLN
      rw [e2] at c2 HKD
      rw [HL.out] at HHD
      clear e1 e2 hmem hFb
      have hnd := need_le (b := (l[i]'hi2).1) (r := (l.drop (i + 1)).map (·.1)) (M := M) (HM.out _ (List.getElem_mem hi2)) (fun y hy => by
        obtain ⟨z, hz, rfl⟩ := List.mem_map.1 hy
        exact HM.out z (List.mem_of_mem_drop hz))
      obtain ⟨rest, hrest⟩ : ∃ rest, (l.drop (i + 1)).map (·.1) = rest := ⟨_, rfl⟩
      have HRS := Lib.hid hrest
      rw [hrest] at HDR HHD hnd
      rw [HDR.out] at HY HYF
      clear hrest HDR
      generalize (l[i]'hi2).1 = x at *
      obtain ⟨n, hn⟩ : ∃ n, x.lines.length = n := ⟨_, rfl⟩
      have HN := Lib.hid hn
      rw [hn] at c1 HLN HX
      obtain ⟨nd, hnq⟩ : ∃ nd, needB x rest = nd := ⟨_, rfl⟩
      have HND := Lib.hid hnq
      rw [hnq] at hnd
      simp only [hnq] at HHD
      clear hn hnq
      have hG1 := HG.out.new (bkA x (.slice A1 n q1) (.slice A2 n2 q2)) 106
      unfold bkA at hG1
      clear HG
      go_upto_region 8 with (fail)
      generalize hWB : wr.alloc (.cells #[.int .i64 (x.kind : Int), .slice A1 n q1, .slice A2 n2 q2, .string x.name] 106) = w1 at *
      have hBw : wr.heap.size < w1.heap.size := by rw [← hWB]; simp
      have hww := hG1.mr.size
      generalize wr.heap.size = B at *
      have G1 := Lib.hid hG1
      clear hG1 hWB c0 c1 c2 c3
      have HBC := Lib.hid (fun (W : World) (h : W.heap[B]? = some (.cells #[.int .i64 (x.kind : Int), .slice A1 n q1, .slice A2 n2 q2, .string x.name] 106 (0, 0))) => show W.cell? ⟨B, 0, none⟩ = some (.int .i64 (x.kind : Int)) ∧ W.cell? ⟨B, 1, none⟩ = some (.slice A1 n q1) ∧ W.cell? ⟨B, 2, none⟩ = some (.slice A2 n2 q2) ∧ W.cell? ⟨B, 3, none⟩ = some (.string x.name) from
        ⟨(str_cells h).1 0, (str_cells h).1 1, (str_cells h).1 2, (str_cells h).1 3⟩)
      obtain ⟨b0, b1, b2, b3⟩ := HBC.out w1 (G1.out.mr.prv (B, #[.int .i64 (x.kind : Int), .slice A1 n q1, .slice A2 n2 q2, .string x.name], 106) (by simp)).1
      have HGP := Lib.hid (Gap_c x (.slice A1 n q1) (.slice A2 n2 q2) w1)
      go_wp2_with fail
      refine HGP.out.mono ?_
      rintro e w2 ⟨rfl, hb2⟩
      have G2 := Lib.hid (G1.out.below hb2)
      clear hb2 G1 HGP b0 b1 b2 b3
      go_upto_region 9 with (fail)
      obtain ⟨⟨A3, q3, rfl⟩, ⟨A4, q4, rfl⟩, ⟨A5, q5, rfl⟩, ⟨A6, q6, rfl⟩⟩ := G2.out.form
      obtain ⟨m, hm⟩ : ∃ m, pg.length = m := ⟨_, rfl⟩
      have HMM := Lib.hid hm
      have hpe : pg = [] ↔ m = 0 := by rw [← hm, List.length_eq_zero_iff]
      rw [hm] at G2 hpl
      clear hm
      have hgp : x.gap ≤ 2 := by unfold Blk.gap; split <;> omega
      generalize hgx : x.gap = gp at *
      have HGX := Lib.hid hgx
      clear hgx
      go_cut [35] (fun v wx => v = .bool (decide (0 < m ∧ 54 < m + gp + nd)) ∧ Hid (LyM w o p f Ps pg (.slice A3 m q3) (.slice A4 Ps.length q4) fs (.slice A5 fs.length q5) st (.slice A6 st.length q6) fi [(B, #[.int .i64 (x.kind : Int), .slice A1 n q1, .slice A2 n2 q2, .string x.name], 106), (w.heap.size, #[.slice none 0 0, .slice none 0 0, .slice none 0 0], 109)] wx))
      case first =>
        have cp := G2.out.cells.1.2.2.2.1
        by_cases h0 : m = 0
        · subst h0
          go_region
          go_wp2
          go_meet
          exact ⟨rfl, G2.out.drew⟩
        · have hm0 : 0 < m := by omega
          have hlp : p < w2.heap.size := G2.out.mr.plt (p := (p, #[.slice A3 m q3], 26)) (by simp)
          have s0 : ∀ (d : Nat) (os : Array Obj), (Sort.grow (redrawn w2 d) os).cell? ⟨p, 0, none⟩ = some (.slice A3 m q3) := fun d os => ((below_regrown w2 d os).cell hlp).trans cp
          have hwz := G2.out.mr.size
          have HHE := Lib.hid (fun d os => HHD.out (Sort.grow (redrawn w2 d) os) (G2.out.mr.bel.trans ((below_regrown w2 d os).mono hwz)))
          have hpq : ∀ t : Prop, (0 < m ∧ t) ↔ t := fun t => ⟨fun h => h.2, fun h => ⟨by omega, h⟩⟩
          by_cases ht : 54 < m + gp + nd
          · have ht2 : (54 : Int) < (m : Int) + (gp : Int) + (nd : Int) := by omega
            have HT := Lib.hid (show decide (0 < m ∧ 54 < m + gp + nd) = true from decide_eq_true ⟨by omega, ht⟩)
            refine wp_region_quiet_below (by kernel_rfl) (by kernel_rfl) ?_
            repeat (first | go_big_quiet_step ((go_at_call 87; exact Calls.regrown_of (HHE.out _ _))) | quiet_step ((go_at_call 87; exact Calls.regrown_of (HHE.out _ _))))
            refine wpQuiet_nil ?_
            intro wy hwy
            have hby := below_of_regrown hwy
            clear hwy
            go_wp2
            go_meet
            exact ⟨by rw [HT.out], G2.out.below hby⟩
          · have ht2 : ¬ (54 : Int) < (m : Int) + (gp : Int) + (nd : Int) := by omega
            have HT := Lib.hid (show decide (0 < m ∧ 54 < m + gp + nd) = false from decide_eq_false fun h => ht h.2)
            refine wp_region_quiet_below (by kernel_rfl) (by kernel_rfl) ?_
            repeat (first | go_big_quiet_step ((go_at_call 87; exact Calls.regrown_of (HHE.out _ _))) | quiet_step ((go_at_call 87; exact Calls.regrown_of (HHE.out _ _))))
            refine wpQuiet_nil ?_
            intro wy hwy
            have hby := below_of_regrown hwy
            clear hwy
            go_wp2
            go_meet
            exact ⟨by rw [HT.out], G2.out.below hby⟩
      case rest =>
        clear G2 HHD
        obtain ⟨rfl, G2⟩ := hcut
        have hPz : Ps.length ≤ 1000000000 := by
          have := Nat.mul_le_mul_right (M + 2) (show i ≤ L by omega)
          omega
        go_upto_if 35 with (fail)
        go_cut [] (fun wx => ∃ (P1 : List (List ByteArray × Value)) (pg1 : List ByteArray) (pv1 pgV1 : Value) (fs1 : List Value) (fV1 : Value) (fi1 : Int), P1.map (·.1) = (if topB x rest pg = true ∧ ¬ pg = [] then Ps.map (·.1) ++ [pg] else Ps.map (·.1)) ∧ pg1 = (if topB x rest pg = true then [] else pg) ∧ P1.length ≤ Ps.length + 1 ∧ Hid ((fs1, fi1) = (if topB x rest pg = true ∧ ¬ pg = [] then (fs ++ [.int .i64 fi], -1) else (fs, fi) : FrQ)) ∧ Hid (LyM w o p f P1 pg1 pv1 pgV1 fs1 fV1 st (.slice A6 st.length q6) fi1 [(B, #[.int .i64 (x.kind : Int), .slice A1 n q1, .slice A2 n2 q2, .string x.name], 106), (w.heap.size, #[.slice none 0 0, .slice none 0 0, .slice none 0 0], 109)] wx))
        case first =>
          have htop : topB x rest pg = true ↔ m = 0 ∨ 54 < m + gp + nd := by
            rw [putB_top, hpe, HMM.out, HGX.out, HND.out]
          by_cases ht : 0 < m ∧ 54 < m + gp + nd
          · have HT := Lib.hid (show decide (0 < m ∧ 54 < m + gp + nd) = true from decide_eq_true ht)
            have hF := flush2_c w o p f Ps pg (.slice A3 m q3) (.slice A4 Ps.length q4) fs (.slice A5 fs.length q5) st (.slice A6 st.length q6) fi _ wc G2.out hPz
            have HFL := Lib.hid hF
            have HQ := Lib.hid (show topB x rest pg = true ∧ ¬ pg = [] from ⟨htop.2 (.inr ht.2), fun e => by have := hpe.1 e; omega⟩)
            clear hF htop
            rw [HT.out]
            go_wp2_with fail
            refine HFL.out.mono ?_
            rintro e w3 ⟨rfl, pgV1, fV1, G3⟩
            go_wp2
            go_meet
            exact ⟨Ps ++ [(pg, .slice A3 m q3)], [], _, pgV1, _, fV1, -1, by rw [if_pos HQ.out]; simp, by rw [if_pos HQ.out.1], by simp, Lib.hid (by rw [if_pos HQ.out]), Lib.hid G3⟩
          · have HT := Lib.hid (show decide (0 < m ∧ 54 < m + gp + nd) = false from decide_eq_false ht)
            have HQ := Lib.hid (show ¬ (topB x rest pg = true ∧ ¬ pg = []) ∧ (topB x rest pg = true → pg = []) from ⟨fun h => ht (by
              have h1 := htop.1 h.1
              have h2 : ¬ m = 0 := fun e => h.2 (hpe.2 e)
              omega), fun h => hpe.2 (by have h1 := htop.1 h; omega)⟩)
            clear htop
            rw [HT.out]
            go_wp2
            go_meet
            exact ⟨Ps, pg, _, _, fs, _, fi, by rw [if_neg HQ.out.1], by
              by_cases h : topB x rest pg = true
              · rw [if_pos h]; exact HQ.out.2 h
              · rw [if_neg h], by omega, Lib.hid (by rw [if_neg HQ.out.1]), G2.out⟩
        case rest =>
          clear G2
          obtain ⟨P1, pg1, pv1, pgV1, fs1, fV1, fi1, HP1, HG1, hP1, HF1, G3⟩ := hcut
          have HP1 := Lib.hid HP1
          have HG1 := Lib.hid HG1
          obtain ⟨⟨A7, q7, rfl⟩, ⟨A8, q8, rfl⟩, ⟨A9, q9, rfl⟩, _⟩ := G3.out.form
          have hp54 : pg1.length ≤ 54 := by
            rw [HG1.out]
            split
            · decide
            · rw [HMM.out]; exact hpl
          have hp0 : pg1 = [] ↔ pg1.length = 0 := List.length_eq_zero_iff.symm
          obtain ⟨m1, hm1⟩ : ∃ m1, pg1.length = m1 := ⟨_, rfl⟩
          have HM1 := Lib.hid hm1
          rw [hm1] at G3 hp54 hp0
          clear hm1
          have cp := G3.out.cells.1.2.2.2.1
          have HTE := Lib.hid (show topB x rest pg = true ↔ m1 = 0 by
            rw [← hp0, HG1.out]
            by_cases h : topB x rest pg = true
            · rw [if_pos h]; simp [h]
            · rw [if_neg h]
              refine ⟨fun k => absurd k h, fun k => ?_⟩
              exact absurd (putB_top.2 (.inl k)) h)
          have HTI := Lib.hid (fun (h : m1 = 0) => show Hid ((i : Int) = (if topB x rest pg = true then (i : Int) else fi1)) from Lib.hid (by rw [if_pos (HTE.out.2 h)]))
          have HTN := Lib.hid (fun (h : ¬ m1 = 0) => show Hid (fi1 = (if topB x rest pg = true then (i : Int) else fi1)) from Lib.hid (by rw [if_neg (fun k => h (HTE.out.1 k))]))
          go_upto_if 40 with (fail)
          clear cp
          go_cut [] (fun wx => ∃ fi2 : Int, Hid (fi2 = (if topB x rest pg = true then (i : Int) else fi1)) ∧ Hid (LyM w o p f P1 pg1 (.slice A7 m1 q7) (.slice A8 P1.length q8) fs1 (.slice A9 fs1.length q9) st (.slice A6 st.length q6) fi2 [(B, #[.int .i64 (x.kind : Int), .slice A1 n q1, .slice A2 n2 q2, .string x.name], 106), (w.heap.size, #[.slice none 0 0, .slice none 0 0, .slice none 0 0], 109)] wx))
          case first =>
            obtain ⟨⟨_, _, _, cp, cf⟩, _, _, kf⟩ := G3.out.cells
            have kf0 := kf 0
            clear kf
            by_cases h0 : m1 = 0
            · subst h0
              go_wp2
              go_meet
              exact ⟨i, HTI.out (by first | rfl | trivial), Lib.hid (G3.out.setF i)⟩
            · have h01 : ¬ (m1 : Int) = 0 := by omega
              go_wp2
              go_meet
              exact ⟨fi1, HTN.out h0, G3⟩
          case rest =>
            clear G3
            obtain ⟨fi2, HF2, G3⟩ := hcut
            obtain ⟨d, hd⟩ : ∃ d, (if m1 = 0 then 0 else 1) = d := ⟨_, rfl⟩
            have hmin : min (m1 : Int) 1 = (d : Int) := by rw [← hd]; split <;> omega
            obtain ⟨gz, hgz⟩ : ∃ gz, gp * d = gz := ⟨_, rfl⟩
            have hgz2 : gz ≤ 2 := by
              rw [← hgz, ← hd]
              split <;> omega
            have hmul : (gp : Int) * (d : Int) = (gz : Int) := by rw [← hgz]; push_cast; rfl
            have HGZ := Lib.hid (show gz = if pg1 = [] then 0 else gp by
              rw [← hgz, ← hd]
              by_cases h0 : m1 = 0
              · rw [if_pos h0, if_pos (hp0.2 h0)]; rfl
              · rw [if_neg h0, if_neg (fun h => h0 (hp0.1 h)), Nat.mul_one])
            clear hgz hd
            have cp := G3.out.cells.1.2.2.2.1
            go_wp2
            go_loopw [47] (fun kv wr => ∃ (k : Nat) (cur : List ByteArray) (cv : Value), k ≤ gz ∧ kv = .int .i64 k ∧ Hid (cur = pg1 ++ List.replicate k (⟨#[]⟩ : ByteArray)) ∧ Hid (LyM w o p f P1 cur cv (.slice A8 P1.length q8) fs1 (.slice A9 fs1.length q9) st (.slice A6 st.length q6) fi2 [(B, #[.int .i64 (x.kind : Int), .slice A1 n q1, .slice A2 n2 q2, .string x.name], 106), (w.heap.size, #[.slice none 0 0, .slice none 0 0, .slice none 0 0], 109)] wr)) (fun kv _ => gz - (intOf kv).toNat)
            case atStart => exact ⟨0, pg1, _, Nat.zero_le _, rfl, Lib.hid (List.append_nil _).symm, G3⟩
            case round =>
              clear G3 cp
              obtain ⟨k, cur, cv, hk, rfl, HC, HG⟩ := hrel
              obtain ⟨⟨A3', q3', rfl⟩, _⟩ := HG.out.form
              have cp := HG.out.cells.1.2.2.2.1
              have hcl : cur.length = m1 + k := by rw [HC.out, List.length_append, List.length_replicate, HM1.out]
              have HCL := Lib.hid (show (cur.map Value.string).length = m1 + k by rw [List.length_map]; exact hcl)
              rw [hcl] at HG cp
              clear hcl
              by_cases hlk : k < gz
              · -- DONE
                go_upto_region 16 with (at_builtin; (refine wpList_mrPush rfl _ _ _ rfl 9 i0 _ 16 Tryz.underlying26 hi0 hz0 hz1 hz2 rfl _ (.slice A3' (m1 + k) q3') (cur.map Value.string) (m1 + k) HCL.out rfl (HG.out.mr.alloc (.cells #[.string ⟨#[]⟩] 9)) (.string ⟨#[]⟩) rfl wr.heap.size _ _ (heap_alloc_new wr _) rfl (by unfold maxLen; omega) (by omega) ?_); intro g7 cap7 w7 H7; have d0 := (H7.cell (p := (p, #[.slice A3' (m1 + k) q3'], 26)) (by simp)).1 0; have f0 := (H7.cell (p := (p, #[.slice A3' (m1 + k) q3'], 26)) (by simp)).2 0)
                have G7 := Lib.hid (LyM.page (pg2 := cur ++ [⟨#[]⟩]) (by rw [List.map_append]; exact H7) HG.out.fl HG.out.ne)
                have HC7 := Lib.hid (show cur ++ [⟨#[]⟩] = pg1 ++ List.replicate (k + 1) (⟨#[]⟩ : ByteArray) by rw [HC.out, List.append_assoc, List.replicate_succ'])
                clear H7 d0 f0 HG cp HC HCL
                go_wp2
                go_roundw
                case rel => exact ⟨k + 1, _, _, by omega, intNum, HC7, G7⟩
                case measure => simp [intOf]; omega
              · have hkz : k = gz := by omega
                subst hkz
                have HPA := Lib.hid (show cur = (if topB x rest pg = true then [] else pg ++ List.replicate x.gap (⟨#[]⟩ : ByteArray)) by
                  rw [HC.out, HGZ.out, HG1.out, HGX.out]
                  by_cases ht : topB x rest pg = true
                  · rw [if_pos ht, if_pos ht, if_pos rfl]; rfl
                  · rw [if_neg ht, if_neg ht, if_neg (fun e => ht (putB_top.2 (.inl e)))])
                have HRO := Lib.hid (show RoomOk x 0 (54 - cur.length) ∧ cur.length ≤ 54 by
                  rw [HPA.out]
                  by_cases ht : topB x rest pg = true
                  · rw [if_pos ht]; exact ⟨room_top x, by decide⟩
                  · have htf : topB x rest pg = false := by simpa using ht
                    rw [if_neg ht]
                    refine ⟨room_first htf, ?_⟩
                    have : ¬ (pg = [] ∨ 54 < pg.length + x.gap + needB x rest) := fun h => ht (putB_top.2 h)
                    rw [List.length_append, List.length_replicate]
                    omega)
                have hcl : cur.length = m1 + k := by rw [HC.out, List.length_append, List.length_replicate, HM1.out]
                have HRQ := HRO
                rw [hcl] at HRO
                have hc54 := HRO.out.2
                clear HC HCL HGZ HG1 HM1 hmul hmin
                generalize m1 + k = mk at *
                obtain ⟨⟨co0, _, co2, cp, _⟩, fo, _, _⟩ := HG.out.cells
                have hP1z : P1.length ≤ 1000000000 := by
                  have h1 := Nat.mul_le_mul_right (M + 2) (show i + 1 ≤ L by omega)
                  rw [Nat.add_mul] at h1
                  omega
                have HSL := Lib.hid (show (st.map (fun k : Nat => Value.int .i64 (k : Int))).length = st.length from List.length_map ..)
                obtain ⟨p1, hp1⟩ : ∃ p1, P1.length = p1 := ⟨_, rfl⟩
                have HP1L := Lib.hid hp1
                rw [hp1] at HG co0 hP1z
                clear hp1
                go_upto_region 18 with (at_builtin; (refine wpList_mrPush rfl _ _ _ rfl 3 i2 _ 8 Tryz.underlying22 hj2 hx0 hx1 hx2 rfl _ (.slice A6 st.length q6) (st.map (fun k : Nat => Value.int .i64 (k : Int))) st.length HSL.out rfl ((MR.pick (a := [(9, cur.map .string, .slice A3' mk q3'), (26, P1.map (·.2), .slice A8 p1 q8), (3, fs1, .slice A9 fs1.length q9)]) HG.out.mr).alloc (.cells #[.int .i64 (p1 : Int)] 3)) (.int .i64 (p1 : Int)) rfl wr.heap.size _ _ (heap_alloc_new wr _) rfl (by unfold maxLen; omega) (by omega) ?_); intro g8 cap8 w8 H8; have d2 := (H8.cell (p := (o, #[.slice A8 p1 q8, .slice A9 fs1.length q9, .slice A6 st.length q6], 109)) (by simp)).1 2; have f2 := (H8.cell (p := (o, #[.slice A8 p1 q8, .slice A9 fs1.length q9, .slice A6 st.length q6], 109)) (by simp)).2 2)
                have G8 := Lib.hid (LyM.starts (st2 := st ++ [p1]) (by rw [List.map_append]; exact H8) HG.out.fl HG.out.ne)
                clear H8 d2 f2 HG cp co0 co2 fo
                generalize w8.setCell ⟨o, 2, none⟩ (.slice (some ⟨g8, 0, none⟩) (st.length + 1) cap8) = w9 at *
                generalize Value.slice (some ⟨g8, 0, none⟩) (st.length + 1) cap8 = s9 at *
                obtain ⟨fq, hfq⟩ : ∃ fq, fillB x (n + 1) 0 (P1.map (·.1)) cur = fq := ⟨_, rfl⟩
                have HFQ := Lib.hid hfq
                have hn1 : 1 ≤ n := by rw [← HN.out]; exact HX.out.1.pos
                have hnM : n ≤ M := HX.out.2.2
                obtain ⟨bl, ol, rfl⟩ : ∃ bl ol, A1 = some ⟨bl, ol, none⟩ := by
                  obtain ⟨A, cc, e, _, _, h3⟩ := HLN.out
                  injection e with e1
                  subst e1
                  obtain ⟨b', o', _, e, _⟩ := h3 (by rw [HN.out]; omega)
                  exact ⟨b', o', e⟩
                have hnq : n ≤ q1 ∧ q1 ≤ 9223372036854775807 := by
                  obtain ⟨A, cc, e, h1, h2, _⟩ := HLN.out
                  injection e with _ _ e3
                  subst e3
                  rw [HN.out] at h1
                  exact ⟨h1, h2⟩
                clear hfq
                go_wp2
                go_loopw [10] (fun fv wr => ∃ (f0 : Nat) (P2 : List (List ByteArray × Value)) (g2 : List ByteArray) (v2 pV2 : Value) (fs2 : List Value) (fV2 : Value) (fi3 : Int), fv = .int .i64 f0 ∧ f0 < n ∧ g2.length ≤ 54 ∧ P2.length ≤ p1 + f0 ∧ Hid (RoomOk x f0 (54 - g2.length)) ∧ Hid (∃ mm, n - f0 < mm ∧ fillB x mm f0 (P2.map (·.1)) g2 = fq) ∧ Hid (p1 ≤ P2.length ∧ (fs2, fi3) = frN (P2.length - p1) fs1 fi2)
                  ∧ Hid (LyM w o p f P2 g2 v2 pV2 fs2 fV2 (st ++ [p1]) s9 fi3 [(B, #[.int .i64 (x.kind : Int), .slice (some ⟨bl, ol, none⟩) n q1, .slice A2 n2 q2, .string x.name], 106), (w.heap.size, #[.slice none 0 0, .slice none 0 0, .slice none 0 0], 109)] wr)) (fun fv _ => n - (intOf fv).toNat)
                case atStart => exact ⟨0, P1, cur, _, _, fs1, _, fi2, rfl, hn1, HRQ.out.2, by rw [HP1L.out]; omega, Lib.hid HRQ.out.1, Lib.hid ⟨n + 1, by omega, HFQ.out⟩, Lib.hid ⟨by rw [HP1L.out]; exact Nat.le_refl _, by rw [HP1L.out, Nat.sub_self]; rfl⟩, G8⟩
                case round =>
                  clear G8 HRQ HRO
                  obtain ⟨f0, P2, g2, v2, pV2, fs2, fV2, fi3, rfl, hf0, hg54, hP2, HRM, HFB, HFN, HG⟩ := hrel
                  obtain ⟨⟨A10, q10, rfl⟩, ⟨A11, q11, rfl⟩, ⟨A12, q12, rfl⟩, _⟩ := HG.out.form
                  obtain ⟨m2, hm2⟩ : ∃ m2, g2.length = m2 := ⟨_, rfl⟩
                  have HM2 := Lib.hid hm2
                  rw [hm2] at HG hg54 HRM
                  clear hm2
                  obtain ⟨b0, b1, b2, b3⟩ := HBC.out wr (HG.out.mr.prv (B, #[.int .i64 (x.kind : Int), .slice (some ⟨bl, ol, none⟩) n q1, .slice A2 n2 q2, .string x.name], 106) (by simp)).1
                  have cp := HG.out.cells.1.2.2.2.1
                  have hr1 : 1 ≤ f0 + (54 - m2) := by
                    rcases HRM.out with ⟨h0, h | h⟩ | ⟨h0, h⟩
                    · have := least_pos (b := x) (by rw [HN.out]; exact hn1); omega
                    · omega
                    · omega
                  have hst := stop_c (F := F) x (some ⟨bl, ol, none⟩) q1 A2 n2 q2 f0 (54 - m2) wr (by rw [HN.out]; exact hf0) hr1 (by omega) HX.out.2.1.1 (HKD.out.below HG.out.mr.bel HH.out.lt) (fun q hq => Nat.lt_of_lt_of_le (HH.out.lt q hq) HG.out.mr.size) HX.out.2.1.2.1
                  have htt : f0 < stopB x f0 (54 - m2) ∧ stopB x f0 (54 - m2) ≤ n ∧ (stopB x f0 (54 - m2) = n ↔ n - f0 ≤ 54 - m2) := by
                    by_cases hfit : n - f0 ≤ 54 - m2
                    · have := stop_fit (b := x) (f := f0) (room := 54 - m2) (by rw [HN.out]; exact hfit)
                      rw [HN.out] at this
                      omega
                    · have := stopB_brk HX.out.1 HRM.out (by rw [HN.out]; exact hfit)
                      rw [HN.out] at this
                      omega
                  have hr54 : ((54 - m2 : Nat) : Int) = 54 - (m2 : Int) := by omega
                  unfold bkA at hst
                  rw [HN.out, hr54] at hst
                  have HST := Lib.hid hst
                  obtain ⟨tt, htq⟩ : ∃ tt, stopB x f0 (54 - m2) = tt := ⟨_, rfl⟩
                  have HTQ := Lib.hid htq
                  rw [htq] at HST htt
                  clear hst hr1 htq
                  go_wp2_with fail
                  refine HST.out.mono ?_
                  rintro e w3 ⟨rfl, hb3⟩
                  have G3 := Lib.hid (HG.out.below hb3)
                  clear HST hb3 HG cp b0 b1 b2 b3
                  go_upto_region 20 with (fail)
                  obtain ⟨c0, c1, c2, c3⟩ := HBC.out w3 (G3.out.mr.prv (B, #[.int .i64 (x.kind : Int), .slice (some ⟨bl, ol, none⟩) n q1, .slice A2 n2 q2, .string x.name], 106) (by simp)).1
                  have cp := G3.out.cells.1.2.2.2.1
                  obtain ⟨ι, ff, hne, hff, hfS⟩ := family (fun W => W.cell? ⟨p, 0, none⟩ = some (.slice A10 m2 q10) ∧ W.cell? ⟨B, 1, none⟩ = some (.slice (some ⟨bl, ol, none⟩) n q1)) w3 ⟨cp, c1⟩
                  have r0 : ∀ q, (ff q).cell? ⟨p, 0, none⟩ = some (.slice A10 m2 q10) := fun q => (hff q).1
                  have r1 : ∀ q, (ff q).cell? ⟨B, 1, none⟩ = some (.slice (some ⟨bl, ol, none⟩) n q1) := fun q => (hff q).2
                  have hneW : Nonempty World := ⟨w⟩
                  have HFS := Lib.hid hfS
                  have HC3 := Lib.hid (And.intro cp c1)
                  have hbq : ¬ q1 = f0 := by omega
                  have t1 : (f0 : Int) ≤ (tt : Int) := by omega
                  have t2 : (tt : Int) ≤ (q1 : Int) := by omega
                  have hsl := ((HLN.out.below G3.out.mr.bel HH.out.lt).drop_ f0 (by rw [HN.out]; omega) (n - f0) (q1 - f0) (by rw [HN.out]) rfl).take_ (tt - f0) (by rw [List.length_drop, HN.out]; omega)
                  have HSL2 := Lib.hid (show Sli strR w3.drew F ((x.lines.drop f0).take (tt - f0)) (.slice (some ⟨bl, ol + f0, none⟩) (tt - f0) (q1 - f0)) by
                    rw [show f0 * (Rep.n strR) = f0 from Nat.mul_one f0] at hsl
                    exact hsl.drew)
                  clear hff hfS hsl cp c0 c1 c2 c3
                  refine wp_region_segs2 [5, 6] [] [] [([1, 3, 4], [0, 2], 5), ([], [], 6), ([], [], 7)] (by kernel_rfl) (by kernel_rfl) (fun _ _ _ dd _ h => by cases dd <;> exact h) (fun W => ∃ p : ι, W = ff p) (HFS.out _ HC3.out) ?_
                  refine wpSegs2_step (by simp only [pick, List.getElem?_cons_succ, List.getElem?_cons_zero]; rfl) (by simp only [pick, List.getElem?_cons_succ, List.getElem?_cons_zero]; rfl) rfl (fun K0 hK0 L0 hL0 => ?_)
                  repeat (first | go_big_quiet_step (fail) | quiet_step (fail))
                  refine wpQuiet_nil (hL0 _ ?_)
                  repeat (first | go_big_quiet_step (fail) | quiet_step (fail))
                  refine wpQuiet_nil ?_
                  go_simp
                  refine hK0 (fun W => ∃ p : ι, W = ff p) _ _ (fun _ h => h) (HFS.out _ HC3.out) ?_
                  refine wpSegs2_step (by simp only [pick, List.getElem?_cons_succ, List.getElem?_cons_zero]; rfl) (by simp only [pick, List.getElem?_cons_succ, List.getElem?_cons_zero]; rfl) rfl (fun K1 hK1 L1 hL1 => ?_)
                  repeat (first | go_big_quiet_step (fail) | quiet_step (fail))
                  refine wpQuiet_nil (hL1 _ ?_)
                  repeat (first | go_big_quiet_step (fail) | quiet_step (fail))
                  refine wpQuiet_nil ?_
                  refine oper_mrApp _ _ _ rfl 9 i0 _ 16 Tryz.underlying26 hi0 hz0 hz1 hz2 rfl w3.drew (.slice A10 m2 q10) g2 rfl G3.out.drew.mr ((x.lines.drop f0).take (tt - f0)) (some ⟨bl, ol + f0, none⟩) (tt - f0) (q1 - f0) rfl HSL2.out (by rw [List.length_take, List.length_drop, HN.out]; omega) (by rw [HM2.out]; unfold maxLen; omega) (by rw [HM2.out]; omega) ?_
                  intro v4 w4 H4
                  obtain ⟨⟨A13, q13, hv4⟩, _⟩ := (LyM.page H4 G3.out.fl G3.out.ne).form
                  obtain ⟨m5, hm5⟩ : ∃ m5, (g2 ++ (x.lines.drop f0).take (tt - f0)).length = m5 := ⟨_, rfl⟩
                  have HM5 := Lib.hid hm5
                  rw [hm5] at hv4
                  subst hv4
                  clear hm5
                  have k4 := H4.cell (p := (p, #[.slice A10 m2 q10], 26)) (by simp)
                  have d4 : w4.cell? ⟨p, 0, none⟩ = some (.slice A10 m2 q10) := k4.1 0
                  have f4 : w4.frozen? ⟨p, 0, none⟩ = false := k4.2 0
                  have d5 : w4.cell? ⟨B, 1, none⟩ = some (.slice (some ⟨bl, ol, none⟩) n q1) := (H4.cell (p := (B, #[.int .i64 (x.kind : Int), .slice (some ⟨bl, ol, none⟩) n q1, .slice A2 n2 q2, .string x.name], 106)) (by simp)).1 1
                  refine hK1 (fun W => ∃ p : ι, W = ff p) _ _ (fun _ h => h) (HFS.out _ ⟨d4, d5⟩) ?_
                  have G5 := Lib.hid (LyM.page H4 G3.out.fl G3.out.ne)
                  clear H4 G3 k4 HC3
                  refine wpSegs2_last (by simp only [pick, List.getElem?_cons_succ, List.getElem?_cons_zero]; rfl) (by simp only [pick, List.getElem?_cons_succ, List.getElem?_cons_zero]; rfl) rfl (by rfl) (fun K2 hK2 L2 hL2 => ?_)
                  repeat (first | go_big_quiet_step (fail) | quiet_step (fail))
                  refine wpQuiet_nil (hL2 _ ?_)
                  repeat (first | go_big_quiet_step (fail) | quiet_step (fail))
                  refine wpQuiet_nil ?_
                  go_simp
                  refine hK2 _ _ (wpSegs2_end ?_)
                  generalize w4.setCell ⟨p, 0, none⟩ (.slice A13 m5 q13) = w5 at *
                  clear d4 f4 d5 r0 r1 HFS HSL2
                  obtain ⟨b0, b1, b2, b3⟩ := HBC.out w5 (G5.out.mr.prv (B, #[.int .i64 (x.kind : Int), .slice (some ⟨bl, ol, none⟩) n q1, .slice A2 n2 q2, .string x.name], 106) (by simp)).1
                  by_cases hfit : n - f0 ≤ 54 - m2
                  · obtain rfl : tt = n := htt.2.2.2 hfit
                    have hP2z : P2.length ≤ (i + 1) * (M + 2) := by
                      have h1 := HP1L.out
                      rw [Nat.add_mul, Nat.one_mul]
                      omega
                    have hfinF : layF (x :: rest) i (Ps.map (·.1)) pg (fs, fi) = layF rest (i + 1) (P2.map (·.1)) (g2 ++ (x.lines.drop f0).take (tt - f0)) (fs2, fi3) := by
                      obtain ⟨mm, h1, h2⟩ := HFB.out
                      obtain ⟨m', rfl⟩ : ∃ m', mm = m' + 1 := ⟨mm - 1, by omega⟩
                      rw [fillB_end (by rw [HN.out, HM2.out]; exact hfit)] at h2
                      have h3 : (x.lines.drop f0).take (tt - f0) = x.lines.drop f0 := List.take_of_length_le (by rw [List.length_drop, HN.out]; omega)
                      have h4 : fq = (P2.map (·.1), g2 ++ x.lines.drop f0) := h2.symm
                      show layF rest (i + 1) (fillB x (x.lines.length + 1) 0 (if topB x rest pg = true ∧ ¬ pg = [] then Ps.map (·.1) ++ [pg] else Ps.map (·.1)) (if topB x rest pg = true then [] else pg ++ List.replicate x.gap ⟨#[]⟩)).1 (fillB x (x.lines.length + 1) 0 (if topB x rest pg = true ∧ ¬ pg = [] then Ps.map (·.1) ++ [pg] else Ps.map (·.1)) (if topB x rest pg = true then [] else pg ++ List.replicate x.gap ⟨#[]⟩)).2 (frN ((fillB x (x.lines.length + 1) 0 (if topB x rest pg = true ∧ ¬ pg = [] then Ps.map (·.1) ++ [pg] else Ps.map (·.1)) (if topB x rest pg = true then [] else pg ++ List.replicate x.gap ⟨#[]⟩)).1.length - (if topB x rest pg = true ∧ ¬ pg = [] then Ps.map (·.1) ++ [pg] else Ps.map (·.1)).length) (if topB x rest pg = true ∧ ¬ pg = [] then (fs ++ [.int .i64 fi], -1) else (fs, fi) : FrQ).1 (if topB x rest pg = true then (i : Int) else (if topB x rest pg = true ∧ ¬ pg = [] then (fs ++ [.int .i64 fi], -1) else (fs, fi) : FrQ).2)) = _
                      rw [← HP1.out, ← HPA.out, ← HF1.out, ← HF2.out, HN.out, HFQ.out, h4, h3, List.length_map, List.length_map, HP1L.out, HFN.out.2]
                    have hfin : layB (x :: rest) (Ps.map (·.1)) pg st = layB rest (P2.map (·.1)) (g2 ++ (x.lines.drop f0).take (tt - f0)) (st ++ [p1]) := by
                      obtain ⟨mm, h1, h2⟩ := HFB.out
                      obtain ⟨m', rfl⟩ : ∃ m', mm = m' + 1 := ⟨mm - 1, by omega⟩
                      rw [fillB_end (by rw [HN.out, HM2.out]; exact hfit)] at h2
                      have h3 : (x.lines.drop f0).take (tt - f0) = x.lines.drop f0 := List.take_of_length_le (by rw [List.length_drop, HN.out]; omega)
                      show layB rest (fillB x (x.lines.length + 1) 0 (if topB x rest pg = true ∧ ¬ pg = [] then Ps.map (·.1) ++ [pg] else Ps.map (·.1)) (if topB x rest pg = true then [] else pg ++ List.replicate x.gap ⟨#[]⟩)).1 _ (st ++ [(if topB x rest pg = true ∧ ¬ pg = [] then Ps.map (·.1) ++ [pg] else Ps.map (·.1)).length]) = _
                      rw [← HP1.out, ← HPA.out, HN.out, HFQ.out, ← h2, h3, List.length_map, HP1L.out]
                    have HFI := Lib.hid (hfin.symm.trans HY.out)
                    have HFF := Lib.hid (hfinF.symm.trans HYF.out)
                    rw [← HRS.out] at HFF
                    rw [← HRS.out] at HFI
                    have hg5l : (g2 ++ (x.lines.drop f0).take (tt - f0)).length ≤ 54 := by
                      rw [List.length_append, List.length_take, List.length_drop, HM2.out]; omega
                    have hs5 : (st ++ [p1]).length = i + 1 := by rw [List.length_append, HSI.out]; rfl
                    have G6 := Lib.hid (G5.out.less (Y := [(w.heap.size, #[.slice none 0 0, .slice none 0 0, .slice none 0 0], 109)]) (by simp))
                    clear G5 hfin HFB
                    go_wp2
                    go_roundw
                    case rel => exact ⟨i + 1, P2, _, _, _, fs2, _, _, s9, fi3, by omega, intNum, hg5l, hP2z, hs5, HFI, HFF, G6⟩
                    case measure => simp [intOf]; omega
                  · have hne2 : ¬ tt = n := fun e => hfit (htt.2.2.1 e)
                    have hne3 : ¬ (tt : Int) = (n : Int) := by omega
                    have HFB2 := Lib.hid (show ∃ mm, n - tt < mm ∧ fillB x mm tt (P2.map (·.1) ++ [g2 ++ (x.lines.drop f0).take (tt - f0) ++ (if x.kind = 3 then [moreS] else [])]) (if x.kind = 3 then [contS x.name] else []) = fq by
                      obtain ⟨mm, h1, h2⟩ := HFB.out
                      obtain ⟨m', rfl⟩ : ∃ m', mm = m' + 1 := ⟨mm - 1, by omega⟩
                      have h3 := fillB_more HX.out.1 (m := m') (f := f0) (P := P2.map (·.1)) (pg := g2) (by rw [HM2.out]; exact HRM.out) (by rw [HN.out, HM2.out]; exact hfit)
                      rw [HM2.out, HTQ.out] at h3
                      exact ⟨m', by omega, h3.symm.trans h2⟩)
                    have hP2z : P2.length ≤ 1000000000 := by
                      have h1 := HP1L.out
                      have h2 := Nat.mul_le_mul_right (M + 2) (show i + 1 ≤ L by omega)
                      rw [Nat.add_mul, Nat.one_mul] at h2
                      omega
                    have HM5L := Lib.hid (show ((g2 ++ (x.lines.drop f0).take (tt - f0)).map Value.string).length = m5 by rw [List.length_map]; exact HM5.out)
                    have hm5 : m5 ≤ 2000000 := by
                      rw [← HM5.out, List.length_append, List.length_take, List.length_drop, HM2.out, HN.out]
                      omega
                    clear HFB HM5 HRM HTQ
                    generalize g2 ++ (x.lines.drop f0).take (tt - f0) = g5 at *
                    by_cases h3 : x.kind = 3
                    · have e3 : ((x.kind : Int) == 3) = true := by rw [beq_iff_eq]; omega
                      rw [if_pos h3, if_pos h3] at HFB2
                      go_upto_region 23 with (fail)
                      have cp := G5.out.cells.1.2.2.2.1
                      obtain ⟨ι, ff, hne, hff, hfS⟩ := family (fun W => W.cell? ⟨p, 0, none⟩ = some (.slice A13 m5 q13)) w5 cp
                      have hneW : Nonempty World := ⟨w⟩
                      have HFS := Lib.hid hfS
                      have HC5 := Lib.hid cp
                      have HMR := Lib.hid (more_c w5.drew)
                      clear hfS cp b0 b1 b2 b3
                      refine wp_region_segs2 [1, 2] [] [] [([], [0], 1), ([], [], 2), ([], [], 3), ([], [], 4)] (by kernel_rfl) (by kernel_rfl) (fun _ _ _ dd _ h => by cases dd <;> exact h) (fun W => ∃ p : ι, W = ff p) (HFS.out _ HC5.out) ?_
                      refine wpSegs2_step (by simp only [pick, List.getElem?_cons_succ, List.getElem?_cons_zero]; rfl) (by simp only [pick, List.getElem?_cons_succ, List.getElem?_cons_zero]; rfl) rfl (fun K0 hK0 L0 hL0 => ?_)
                      repeat (first | go_big_quiet_step (fail) | quiet_step (fail))
                      refine wpQuiet_nil (hL0 _ ?_)
                      repeat (first | go_big_quiet_step (fail) | quiet_step (fail))
                      refine wpQuiet_nil ?_
                      go_simp
                      refine HMR.out.mono ?_
                      rintro e w6 ⟨rfl, hb6⟩
                      have G6 := Lib.hid (G5.out.drew.below hb6)
                      refine hK0 (fun W => ∃ p : ι, W = ff p) _ _ (fun _ h => h) (HFS.out _ G6.out.cells.1.2.2.2.1) ?_
                      clear hb6 HMR G5 HC5
                      refine wpSegs2_step (by simp only [pick, List.getElem?_cons_succ, List.getElem?_cons_zero]; rfl) (by simp only [pick, List.getElem?_cons_succ, List.getElem?_cons_zero]; rfl) rfl (fun K1 hK1 L1 hL1 => ?_)
                      repeat (first | go_big_quiet_step (fail) | quiet_step (fail))
                      refine wpQuiet_nil (hL1 _ ?_)
                      repeat (first | go_big_quiet_step (fail) | quiet_step (fail))
                      refine wpQuiet_nil ?_
                      go_simp
                      have G7 := Lib.hid (show LyM w o p f P2 g5 (.slice A13 m5 q13) (.slice A11 P2.length q11) fs2 (.slice A12 fs2.length q12) (st ++ [p1]) s9 fi3 [(B, #[.int .i64 (x.kind : Int), .slice (some ⟨bl, ol, none⟩) n q1, .slice A2 n2 q2, .string x.name], 106), (w.heap.size, #[.slice none 0 0, .slice none 0 0, .slice none 0 0], 109)] (w6.alloc (.cells #[.string moreS] 9)) from ⟨G6.out.mr.alloc _, G6.out.fl, G6.out.ne⟩)
                      refine hK1 (fun W => ∃ p : ι, W = ff p) _ _ (fun _ h => h) (HFS.out _ G7.out.cells.1.2.2.2.1) ?_
                      refine wpSegs2_step (by simp only [pick, List.getElem?_cons_succ, List.getElem?_cons_zero]; rfl) (by simp only [pick, List.getElem?_cons_succ, List.getElem?_cons_zero]; rfl) rfl (fun K2 hK2 L2 hL2 => ?_)
                      repeat (first | go_big_quiet_step (fail) | quiet_step (fail))
                      refine wpQuiet_nil (hL2 _ ?_)
                      repeat (first | go_big_quiet_step (fail) | quiet_step (fail))
                      refine wpQuiet_nil ?_
                      refine oper_mrPush rfl _ _ _ rfl 9 i0 _ 16 Tryz.underlying26 hi0 hz0 hz1 hz2 rfl (w6.alloc (.cells #[.string moreS] 9)) (.slice A13 m5 q13) (g5.map Value.string) m5 HM5L.out rfl G7.out.mr (.string moreS) rfl w6.heap.size _ _ (heap_alloc_new w6 _) rfl (by unfold maxLen; omega) (by omega) ?_
                      intro g7 cap7 w7 H7
                      have k7 := H7.cell (p := (p, #[.slice A13 m5 q13], 26)) (by simp)
                      have d7 : w7.cell? ⟨p, 0, none⟩ = some (.slice A13 m5 q13) := k7.1 0
                      have f7 : w7.frozen? ⟨p, 0, none⟩ = false := k7.2 0
                      refine hK2 (fun W => ∃ p : ι, W = ff p) _ _ (fun _ h => h) (HFS.out _ d7) ?_
                      have G8 := Lib.hid (LyM.page (pg2 := g5 ++ [moreS]) (by rw [List.map_append]; exact H7) G7.out.fl G7.out.ne)
                      clear H7 k7 G6 G7
                      refine wpSegs2_last (by simp only [pick, List.getElem?_cons_succ, List.getElem?_cons_zero]; rfl) (by simp only [pick, List.getElem?_cons_succ, List.getElem?_cons_zero]; rfl) rfl (by rfl) (fun K3 hK3 L3 hL3 => ?_)
                      repeat (first | go_big_quiet_step (fail) | quiet_step (fail))
                      refine wpQuiet_nil (hL3 _ ?_)
                      repeat (first | go_big_quiet_step (fail) | quiet_step (fail))
                      refine wpQuiet_nil ?_
                      go_simp
                      refine hK3 _ _ (wpSegs2_end ?_)
                      generalize w7.setCell ⟨p, 0, none⟩ (.slice (some ⟨g7, 0, none⟩) (m5 + 1) cap7) = w8' at *
                      clear d7 f7 HFS hff
                      have HFL := Lib.hid (flush2_c w o p f P2 (g5 ++ [moreS]) _ _ fs2 _ (st ++ [p1]) s9 fi3 _ w8' G8.out hP2z)
                      clear G8
                      go_wp2_with fail
                      refine HFL.out.mono ?_
                      rintro e w9' ⟨rfl, pgV9, fV9, G9⟩
                      have G9 := Lib.hid G9
                      clear HFL
                      obtain ⟨b0, b1, b2, b3⟩ := HBC.out w9' (G9.out.mr.prv (B, #[.int .i64 (x.kind : Int), .slice (some ⟨bl, ol, none⟩) n q1, .slice A2 n2 q2, .string x.name], 106) (by simp)).1
                      go_upto_region 26 with (fail)
                      have cp := G9.out.cells.1.2.2.2.1
                      obtain ⟨ι, ff, hne, hff, hfS⟩ := family (fun W => W.cell? ⟨p, 0, none⟩ = some (.slice none 0 0) ∧ W.cell? ⟨B, 0, none⟩ = some (.int .i64 (x.kind : Int)) ∧ W.cell? ⟨B, 1, none⟩ = some (.slice (some ⟨bl, ol, none⟩) n q1) ∧ W.cell? ⟨B, 2, none⟩ = some (.slice A2 n2 q2) ∧ W.cell? ⟨B, 3, none⟩ = some (.string x.name)) w9' ⟨cp, b0, b1, b2, b3⟩
                      have r0 : ∀ q, (ff q).cell? ⟨p, 0, none⟩ = some (.slice none 0 0) := fun q => (hff q).1
                      have r1 : ∀ q, (ff q).cell? ⟨B, 0, none⟩ = some (.int .i64 (x.kind : Int)) := fun q => (hff q).2.1
                      have r2 : ∀ q, (ff q).cell? ⟨B, 1, none⟩ = some (.slice (some ⟨bl, ol, none⟩) n q1) := fun q => (hff q).2.2.1
                      have r3 : ∀ q, (ff q).cell? ⟨B, 2, none⟩ = some (.slice A2 n2 q2) := fun q => (hff q).2.2.2.1
                      have r4 : ∀ q, (ff q).cell? ⟨B, 3, none⟩ = some (.string x.name) := fun q => (hff q).2.2.2.2
                      have hneW : Nonempty World := ⟨w⟩
                      have HFS := Lib.hid hfS
                      have HC9 := Lib.hid (And.intro cp (And.intro b0 (And.intro b1 (And.intro b2 b3))))
                      have hgo := goesOn_c x (.slice (some ⟨bl, ol, none⟩) n q1) (.slice A2 n2 q2) w9'.drew (Nat.le_trans HX.out.2.1.2.2 (by decide))
                      unfold bkA at hgo
                      rw [show (x.kind : Int) = 3 by omega] at hgo
                      have HGO := Lib.hid hgo
                      have HCN := Lib.hid (fun (W : World) (q10 : Value) (h : ∀ y : Pc, y ∈ [(p, #[q10], 26), (B, #[.int .i64 (x.kind : Int), .slice (some ⟨bl, ol, none⟩) n q1, .slice A2 n2 q2, .string x.name], 106)] → W.heap[y.1]? = some (.cells y.2.1 y.2.2 (0, 0))) => show W.cell? ⟨p, 0, none⟩ = some q10 ∧ W.cell? ⟨B, 0, none⟩ = some (.int .i64 (x.kind : Int)) ∧ W.cell? ⟨B, 1, none⟩ = some (.slice (some ⟨bl, ol, none⟩) n q1) ∧ W.cell? ⟨B, 2, none⟩ = some (.slice A2 n2 q2) ∧ W.cell? ⟨B, 3, none⟩ = some (.string x.name) from
                        ⟨(str_cells (h (p, #[q10], 26) (by simp))).1 0, HBC.out W (h (B, #[.int .i64 (x.kind : Int), .slice (some ⟨bl, ol, none⟩) n q1, .slice A2 n2 q2, .string x.name], 106) (by simp))⟩)
                      have HPR := Lib.hid (fun (W : World) (gg : List ByteArray) (v : Value) (h : LyM w o p f (P2 ++ [(g5 ++ [moreS], .slice (some ⟨g7, 0, none⟩) (m5 + 1) cap7)]) gg v pgV9 (fs2 ++ [.int .i64 fi3]) fV9 (st ++ [p1]) s9 (-1) [(B, #[.int .i64 (x.kind : Int), .slice (some ⟨bl, ol, none⟩) n q1, .slice A2 n2 q2, .string x.name], 106), (w.heap.size, #[.slice none 0 0, .slice none 0 0, .slice none 0 0], 109)] W) => HCN.out W v fun y hy => (h.mr.prv y (by simp only [List.mem_cons, List.not_mem_nil, or_false] at hy ⊢; rcases hy with h | h <;> simp [h])).1)
                      clear hgo hff hfS cp b0 b1 b2 b3 HCN
                      refine wp_region_segs2 [2, 3, 4] [] [] [([], [0, 1], 2), ([], [], 3), ([], [], 4), ([], [], 5)] (by kernel_rfl) (by kernel_rfl) (fun _ _ _ dd _ h => by cases dd <;> exact h) (fun W => ∃ p : ι, W = ff p) (HFS.out _ HC9.out) ?_
                      refine wpSegs2_step (by simp only [pick, List.getElem?_cons_succ, List.getElem?_cons_zero]; rfl) (by simp only [pick, List.getElem?_cons_succ, List.getElem?_cons_zero]; rfl) rfl (fun K0 hK0 L0 hL0 => ?_)
                      repeat (first | go_big_quiet_step (fail) | quiet_step (fail))
                      refine wpQuiet_nil (hL0 _ ?_)
                      repeat (first | go_big_quiet_step (fail) | quiet_step (fail))
                      refine wpQuiet_nil ?_
                      go_simp
                      refine HGO.out.mono ?_
                      rintro e wa ⟨rfl, hba⟩
                      have Ga := Lib.hid (G9.out.drew.below hba)
                      refine hK0 (fun W => ∃ p : ι, W = ff p) _ _ (fun _ h => h) (HFS.out _ (HPR.out _ _ _ Ga.out)) ?_
                      clear hba HGO G9 HC9
                      refine wpSegs2_step (by simp only [pick, List.getElem?_cons_succ, List.getElem?_cons_zero]; rfl) (by simp only [pick, List.getElem?_cons_succ, List.getElem?_cons_zero]; rfl) rfl (fun K1 hK1 L1 hL1 => ?_)
                      repeat (first | go_big_quiet_step (fail) | quiet_step (fail))
                      refine wpQuiet_nil (hL1 _ ?_)
                      repeat (first | go_big_quiet_step (fail) | quiet_step (fail))
                      refine wpQuiet_nil ?_
                      go_simp
                      have Gb := Lib.hid (show LyM w o p f (P2 ++ [(g5 ++ [moreS], .slice (some ⟨g7, 0, none⟩) (m5 + 1) cap7)]) [] (.slice none 0 0) pgV9 (fs2 ++ [.int .i64 fi3]) fV9 (st ++ [p1]) s9 (-1) [(B, #[.int .i64 (x.kind : Int), .slice (some ⟨bl, ol, none⟩) n q1, .slice A2 n2 q2, .string x.name], 106), (w.heap.size, #[.slice none 0 0, .slice none 0 0, .slice none 0 0], 109)] (wa.alloc (.cells #[.string (contS x.name)] 9)) from ⟨Ga.out.mr.alloc _, Ga.out.fl, Ga.out.ne⟩)
                      refine hK1 (fun W => ∃ p : ι, W = ff p) _ _ (fun _ h => h) (HFS.out _ (HPR.out _ _ _ Gb.out)) ?_
                      refine wpSegs2_step (by simp only [pick, List.getElem?_cons_succ, List.getElem?_cons_zero]; rfl) (by simp only [pick, List.getElem?_cons_succ, List.getElem?_cons_zero]; rfl) rfl (fun K2 hK2 L2 hL2 => ?_)
                      repeat (first | go_big_quiet_step (fail) | quiet_step (fail))
                      refine wpQuiet_nil (hL2 _ ?_)
                      repeat (first | go_big_quiet_step (fail) | quiet_step (fail))
                      refine wpQuiet_nil ?_
                      refine oper_mrPush rfl _ _ _ rfl 9 i0 _ 16 Tryz.underlying26 hi0 hz0 hz1 hz2 rfl (wa.alloc (.cells #[.string (contS x.name)] 9)) (.slice none 0 0) [] 0 rfl rfl Gb.out.mr (.string (contS x.name)) rfl wa.heap.size _ _ (heap_alloc_new wa _) rfl (by decide) (by decide) ?_
                      intro gc capc wc2 Hc
                      have kc := Hc.cell (p := (p, #[.slice none 0 0], 26)) (by simp)
                      have dc : wc2.cell? ⟨p, 0, none⟩ = some (.slice none 0 0) := kc.1 0
                      have fc : wc2.frozen? ⟨p, 0, none⟩ = false := kc.2 0
                      have eb := HBC.out wc2 (Hc.prv (B, #[.int .i64 (x.kind : Int), .slice (some ⟨bl, ol, none⟩) n q1, .slice A2 n2 q2, .string x.name], 106) (by simp)).1
                      refine hK2 (fun W => ∃ p : ι, W = ff p) _ _ (fun _ h => h) (HFS.out _ ⟨dc, eb⟩) ?_
                      have Gd := Lib.hid (LyM.page (pg2 := [contS x.name]) Hc Gb.out.fl Gb.out.ne)
                      clear Hc kc Ga Gb eb
                      refine wpSegs2_last (by simp only [pick, List.getElem?_cons_succ, List.getElem?_cons_zero]; rfl) (by simp only [pick, List.getElem?_cons_succ, List.getElem?_cons_zero]; rfl) rfl (by rfl) (fun K3 hK3 L3 hL3 => ?_)
                      repeat (first | go_big_quiet_step (fail) | quiet_step (fail))
                      refine wpQuiet_nil (hL3 _ ?_)
                      repeat (first | go_big_quiet_step (fail) | quiet_step (fail))
                      refine wpQuiet_nil ?_
                      go_simp
                      refine hK3 _ _ (wpSegs2_end ?_)
                      have HRN := Lib.hid (room_next (b := x) (f := tt) (by omega))
                      have HFN2 := Lib.hid (show p1 ≤ (P2 ++ [(g5 ++ [moreS], Value.slice (some ⟨g7, 0, none⟩) (m5 + 1) cap7)]).length ∧ (fs2 ++ [.int .i64 fi3], -1) = frN ((P2 ++ [(g5 ++ [moreS], Value.slice (some ⟨g7, 0, none⟩) (m5 + 1) cap7)]).length - p1) fs1 fi2 from by
                        rw [List.length_append, List.length_singleton]
                        exact ⟨by have := HFN.out.1; omega, by
                          rw [show P2.length + 1 - p1 = (P2.length - p1) + 1 by have := HFN.out.1; omega]
                          exact frN_succ HFN.out.2⟩)
                      rw [if_pos h3] at HRN
                      clear r0 r1 r2 r3 r4 HFS HPR dc fc
                      go_wp2
                      go_roundw
                      case rel => exact ⟨tt, P2 ++ [(g5 ++ [moreS], .slice (some ⟨g7, 0, none⟩) (m5 + 1) cap7)], [contS x.name], _, pgV9, _, fV9, -1, rfl, by omega, Nat.le_of_ble_eq_true rfl, by rw [List.length_append, List.length_singleton]; omega, HRN, Lib.hid (by rw [List.map_append]; exact HFB2.out), HFN2, Gd⟩
                      case measure => simp [intOf]; omega
                    · have e3 : ((x.kind : Int) == 3) = false := by rw [beq_eq_false_iff_ne]; omega
                      rw [if_neg h3, if_neg h3, List.append_nil] at HFB2
                      have HFL := Lib.hid (flush2_c w o p f P2 g5 _ _ fs2 _ (st ++ [p1]) s9 fi3 _ w5 G5.out hP2z)
                      clear G5
                      go_wp2_with fail
                      refine HFL.out.mono ?_
                      rintro e w9' ⟨rfl, pgV9, fV9, G9⟩
                      have G9 := Lib.hid G9
                      clear HFL b0 b1 b2 b3
                      obtain ⟨b0, b1, b2, b3⟩ := HBC.out w9' (G9.out.mr.prv (B, #[.int .i64 (x.kind : Int), .slice (some ⟨bl, ol, none⟩) n q1, .slice A2 n2 q2, .string x.name], 106) (by simp)).1
                      have HRN := Lib.hid (room_next (b := x) (f := tt) (by omega))
                      have HFN2 := Lib.hid (show p1 ≤ (P2 ++ [(g5, Value.slice A13 m5 q13)]).length ∧ (fs2 ++ [.int .i64 fi3], -1) = frN ((P2 ++ [(g5, Value.slice A13 m5 q13)]).length - p1) fs1 fi2 from by
                        rw [List.length_append, List.length_singleton]
                        exact ⟨by have := HFN.out.1; omega, by
                          rw [show P2.length + 1 - p1 = (P2.length - p1) + 1 by have := HFN.out.1; omega]
                          exact frN_succ HFN.out.2⟩)
                      rw [if_neg h3] at HRN
                      go_wp2
                      go_roundw
                      case rel => exact ⟨tt, P2 ++ [(g5, .slice A13 m5 q13)], [], _, pgV9, _, fV9, -1, rfl, by omega, Nat.le_of_ble_eq_true rfl, by rw [List.length_append, List.length_singleton]; omega, HRN, Lib.hid (by rw [List.map_append]; exact HFB2.out), HFN2, G9⟩
                      case measure => simp [intOf]; omega
    · have hiL : i = L := by omega
      subst hiL
      have HYE := Lib.hid (show layB (l.map (·.1)) [] [] [] = (Ps.map (·.1), pg, st) by
        have h := HY.out
        rw [List.drop_eq_nil_of_le (by rw [HL.out]; exact Nat.le_refl _), List.map_nil] at h
        exact h.symm)
      have HYG := Lib.hid (show layF (l.map (·.1)) 0 [] [] ([], -1) = (fs, fi) by
        have h := HYF.out
        rw [List.drop_eq_nil_of_le (by rw [HL.out]; exact Nat.le_refl _), List.map_nil] at h
        exact h.symm)
      have hPz : Ps.length ≤ 1000000000 := by omega
      obtain ⟨⟨A3, q3, rfl⟩, ⟨A4, q4, rfl⟩, ⟨A5, q5, rfl⟩, ⟨A6, q6, rfl⟩⟩ := HG.out.form
      have HPG := Lib.hid (show pg = [] ↔ pg.length = 0 from List.length_eq_zero_iff.symm)
      obtain ⟨m, hm⟩ : ∃ m, pg.length = m := ⟨_, rfl⟩
      have HMM := Lib.hid hm
      rw [hm] at HG HPG hpl
      clear hm
      have cp := HG.out.cells.1.2.2.2.1
      go_upto_if 100 with (fail)
      go_cut [] (fun wx => ∃ (P1 : List (List ByteArray × Value)) (pg1 : List ByteArray) (pv1 pgV1 : Value) (fs1 : List Value) (fV1 : Value) (fi1 : Int), P1.map (·.1) = pagesB (l.map (·.1)) ∧ Hid (fs1 = frsB (l.map (·.1))) ∧ Hid (LyM w o p f P1 pg1 pv1 pgV1 fs1 fV1 st (.slice A6 st.length q6) fi1 [(w.heap.size, #[.slice none 0 0, .slice none 0 0, .slice none 0 0], 109)] wx))
      case first =>
        by_cases h0 : m = 0
        · subst h0
          have HPB := Lib.hid (show Ps.map (·.1) = pagesB (l.map (·.1)) by
            unfold pagesB
            rw [HYE.out]
            show _ = Ps.map (·.1) ++ (if pg = [] then [] else [pg])
            rw [if_pos (HPG.out.2 rfl), List.append_nil])
          go_wp2
          go_meet
          exact ⟨Ps, pg, _, _, fs, _, fi, HPB.out, Lib.hid (by unfold frsB; rw [HYG.out, HYE.out]; show fs = fs ++ (if pg = [] then [] else [Value.int .i64 fi]); rw [if_pos (HPG.out.2 (by first | rfl | trivial)), List.append_nil]), HG⟩
        · have hm0 : 0 < m := by omega
          have HPB := Lib.hid (show Ps.map (·.1) ++ [pg] = pagesB (l.map (·.1)) by
            unfold pagesB
            rw [HYE.out]
            show _ = Ps.map (·.1) ++ (if pg = [] then [] else [pg])
            rw [if_neg (fun e => h0 (HPG.out.1 e))])
          have HFL := Lib.hid (flush2_c w o p f Ps pg _ _ fs _ st _ fi _ wr HG.out hPz)
          go_wp2_with fail
          refine HFL.out.mono ?_
          rintro e w9 ⟨rfl, pgV9, fV9, G9⟩
          go_wp2
          go_meet
          exact ⟨Ps ++ [(pg, .slice A3 m q3)], [], _, pgV9, _, fV9, -1, by rw [List.map_append]; exact HPB.out, Lib.hid (by unfold frsB; rw [HYG.out, HYE.out]; show fs ++ [Value.int .i64 fi] = fs ++ (if pg = [] then [] else [Value.int .i64 fi]); rw [if_neg (fun e => h0 (HPG.out.1 e))]), Lib.hid G9⟩
      case rest =>
        clear HG cp
        obtain ⟨P1, pg1, pv1, pgV1, fs1, fV1, fi1, HP1, HFS1, G1⟩ := hcut
        have HP1 := Lib.hid HP1
        obtain ⟨_, ⟨A8, q8, rfl⟩, ⟨A9, q9, rfl⟩, _⟩ := G1.out.form
        obtain ⟨⟨d0, d1, d2, _⟩, _⟩ := G1.out.cells
        have kR := G1.out.mr.cell (p := (w.heap.size, #[.slice none 0 0, .slice none 0 0, .slice none 0 0], 109)) (by simp)
        have z0 : wc.cell? ⟨w.heap.size, 0, none⟩ = some (.slice none 0 0) := kR.1 0
        have z1 : wc.cell? ⟨w.heap.size, 1, none⟩ = some (.slice none 0 0) := kR.1 1
        have z2 : wc.cell? ⟨w.heap.size, 2, none⟩ = some (.slice none 0 0) := kR.1 2
        have y0 : wc.frozen? ⟨w.heap.size, 0, none⟩ = false := kR.2 0
        have y1 : wc.frozen? ⟨w.heap.size, 1, none⟩ = false := kR.2 1
        have y2 : wc.frozen? ⟨w.heap.size, 2, none⟩ = false := kR.2 2
        clear kR
        have hm := (((G1.out.mr.less (Q := [(w.heap.size, #[.slice none 0 0, .slice none 0 0, .slice none 0 0], 109)]) (by simp)).set (i := 0) (.slice A8 P1.length q8) (by simp)).set (i := 1) (.slice A9 fs1.length q9) (by simp)).set (i := 2) (.slice A6 st.length q6) (by simp)
        have HMR := Lib.hid (hm.less (Q := []) (by simp))
        clear hm
        go_wp2
        refine ⟨rfl, .agg #[.slice A8 P1.length q8, .slice A9 fs1.length q9, .slice A6 st.length q6], (by rw [results_cell1 rfl]; go_simp), ?_⟩
        refine ⟨P1, _, _, _, rfl, HP1.out, by rw [← HFS1.out]; exact G1.out.fl, ?_⟩
        rw [HYE.out, ← HFS1.out]
        have hz := HMR.out
        exact ⟨hz.bel, fun r hr => hz.own r (by simp only [List.mem_cons] at hr ⊢; rcases hr with h | h | h | h <;> simp [h]), by
          have h1 := (List.pairwise_cons.1 hz.dis).2
          have h2 := List.pairwise_cons.1 h1
          have h3 := List.pairwise_cons.1 h2.2
          have h4 := List.pairwise_cons.1 h3.2
          refine List.pairwise_cons.2 ⟨fun r hr => h2.1 r (by simp only [List.mem_cons] at hr ⊢; rcases hr with h | h | h <;> simp [h]), List.pairwise_cons.2 ⟨fun r hr => ?_, List.pairwise_cons.2 ⟨fun r hr => h3.1 r (by simp [hr]), h4.2⟩⟩⟩
          rcases List.mem_cons.1 hr with rfl | hr
          · exact (h3.1 _ (by simp)).symm
          · exact h4.1 r hr, fun q hq => by cases hq⟩
end Go.Proofs.YtnnnmbipmfopmaaGreatDoor

/- All blocks of a script and the numbers of the headings among them: two lists under way; script.laid, walked. -/
namespace Go.Proofs.YtnnnmbipmfopmaaGreatDoor
set_option linter.unusedVariables false
open Go.RowKit Go.Sort

section
variable {w wx wy : World} {l : List BkT} {v u : Value} {hs : List Nat}
theorem own_sl {a b : Nat} {T : TypeId} {l : List Value} (h : Own valR wx a b T l v) : ∃ A c, v = .slice A l.length c := by
  rcases h.form with ⟨rfl, rfl⟩ | ⟨g, c, rfl, _⟩
  · exact ⟨_, _, rfl⟩
  · exact ⟨_, _, rfl⟩
end
/-- Bounds of what is laid out. -/
theorem head_few {x : Scene} (h : LnOk x) : (wrapT (headS x) 60).length ≤ 200 := by
  have h1 := wrapT_few (headS x) (wd := 60) (by decide)
  have h2 := h.head.1
  omega
theorem blkPara_few {l : List Blk} {p : Para} {m : Nat} (h : ∀ b ∈ l, b.lines.length ≤ m ∧ b.name.size ≤ 2000) (hp : p.text.size ≤ 2000) (h1 : 1 ≤ m) : (blkPara l p).length ≤ l.length + 1 ∧ ∀ b ∈ blkPara l p, b.lines.length ≤ m + 136 ∧ b.name.size ≤ 2000 := by
  have w60 := wrapT_few p.text (wd := 60) (by decide)
  have w35 := wrapT_few p.text (wd := 35) (by decide)
  have w30 := wrapT_few (⟨#[40]⟩ ++ p.text ++ ⟨#[41]⟩) (wd := 30) (by decide)
  rw [par_sz] at w30
  have hpush : ∀ b : Blk, b.lines.length ≤ m + 136 → b.name.size ≤ 2000 → (l ++ [b]).length ≤ l.length + 1 ∧ ∀ c ∈ l ++ [b], c.lines.length ≤ m + 136 ∧ c.name.size ≤ 2000 := fun b hb hb2 => ⟨by simp, fun c hc => by
    rcases List.mem_append.1 hc with hc | hc
    · have := h c hc; exact ⟨by omega, this.2⟩
    · rw [List.mem_singleton.1 hc]; exact ⟨hb, hb2⟩⟩
  have hput : ∀ kd at_ (ls : List ByteArray), ls.length ≤ 136 → (l.modify (l.length - 1) fun b => b.put kd at_ ls).length ≤ l.length + 1 ∧ ∀ c ∈ l.modify (l.length - 1) (fun b => b.put kd at_ ls), c.lines.length ≤ m + 136 ∧ c.name.size ≤ 2000 := fun kd at_ ls hls => ⟨by rw [List.length_modify]; omega, fun c hc => by
    obtain ⟨j, hj⟩ := List.mem_iff_getElem?.1 hc
    rw [List.getElem?_modify] at hj
    cases hz : l[j]? with
    | none => rw [hz] at hj; cases hj
    | some y =>
      have hy := h y (List.mem_iff_getElem?.2 ⟨j, hz⟩)
      rw [hz] at hj
      by_cases e : l.length - 1 = j
      · simp [e] at hj
        subst hj
        refine ⟨?_, hy.2⟩
        show (y.lines ++ ls.map (indS at_)).length ≤ _
        rw [List.length_append, List.length_map]
        omega
      · simp [e] at hj
        subst hj
        exact ⟨by omega, hy.2⟩⟩
  unfold blkPara
  split
  · exact hpush _ (by show (wrapT p.text 60).length ≤ _; omega) (by show (0 : Nat) ≤ _; omega)
  · split
    · exact hpush _ (by show 1 ≤ _; omega) (by show (0 : Nat) ≤ _; omega)
    · split
      · exact hpush _ (by show 1 ≤ _; omega) hp
      · split
        · exact hput _ _ _ (by omega)
        · split
          · exact hput _ _ _ (by omega)
          · exact ⟨by omega, fun c hc => by have := h c hc; exact ⟨by omega, this.2⟩⟩
theorem fold_few : ∀ (ps : List Para) (l : List Blk) (m : Nat), (∀ p ∈ ps, p.text.size ≤ 2000) → 1 ≤ m → (∀ b ∈ l, b.lines.length ≤ m ∧ b.name.size ≤ 2000) → (ps.foldl blkPara l).length ≤ l.length + ps.length ∧ ∀ b ∈ ps.foldl blkPara l, b.lines.length ≤ m + 136 * ps.length ∧ b.name.size ≤ 2000
  | [], l, m, _, _, h => ⟨Nat.le_refl _, fun b hb => by have := h b hb; exact ⟨by simpa using this.1, this.2⟩⟩
  | p :: r, l, m, hp, h1, h => by
    obtain ⟨a, b⟩ := blkPara_few h (hp p (by simp)) h1
    obtain ⟨c, d⟩ := fold_few r _ (m + 136) (fun q hq => hp q (by simp [hq])) (by omega) b
    rw [List.foldl_cons, List.length_cons]
    exact ⟨by omega, fun x hx => by have := d x hx; exact ⟨by omega, this.2⟩⟩
theorem blocks_few {x : Scene} (h : LnOk x) (hn : x.paras.length ≤ 61) : (blocksS x).length ≤ 62 ∧ ∀ b ∈ blocksS x, b.lines.length ≤ 8500 ∧ b.name.size ≤ 2000 := by
  have hh := head_few h
  obtain ⟨a, b⟩ := fold_few x.paras [blkWrap 0 (headS x)] 200 (fun p hp => (h.para hp).1) (by omega) (fun c hc => by
    rw [List.mem_singleton.1 hc]
    exact ⟨hh, by show (0 : Nat) ≤ _; omega⟩)
  unfold blocksS
  exact ⟨by rw [List.length_singleton] at a; omega, fun c hc => by have := b c hc; exact ⟨by omega, this.2⟩⟩
theorem layB_len (l : List Blk) : (layB l [] [] []).2.2.length = l.length := by
  have h := (layB_run l [] ([], [])).2.2
  rw [List.append_nil] at h
  have h2 : (layB [] (runB l [] ([], [])).1.1 (runB l [] ([], [])).1.2 []).2.2 = [] := rfl
  rw [h2, List.append_nil] at h
  exact (congrArg List.length h).trans (runB_len l [] ([], []))
end Go.Proofs.YtnnnmbipmfopmaaGreatDoor

/- script.laid, walked. -/
namespace Go.Proofs.YtnnnmbipmfopmaaGreatDoor
set_option linter.unusedVariables false
open Go.RowKit Go.Sort

theorem bk_one {y : BkT} {A1 A2 : Option Addr} {n1 c1 n2 c2 : Nat} (e1 : y.2.1 = .slice A1 n1 c1) (e2 : y.2.2 = .slice A2 n2 c2) : ∀ u ∈ bkCs y, u.oneCell' = true := by
  intro u hu
  simp only [bkCs, e1, e2, List.mem_cons, List.not_mem_nil, or_false] at hu
  rcases hu with rfl | rfl | rfl | rfl <;> rfl
end Go.Proofs.YtnnnmbipmfopmaaGreatDoor

/- revise.numbered, walked. -/
namespace Go.Proofs.YtnnnmbipmfopmaaGreatDoor
set_option linter.unusedVariables false
open Go.RowKit Go.Sort

def noneN (xs : List Scene) : Nat := (xs.filter fun x => decide (x.no = ⟨#[]⟩)).length
def noAt (xs : List Scene) (i : Nat) : ByteArray := ((xs[i]?).map (·.no)).getD ⟨#[]⟩
def risN (xs : List Scene) : Bool := (List.range (xs.length - 1)).all fun i => decide (0 < cmpN (noAt xs (i + 1)) (noAt xs i))
/-- The error of numbering, and the numbered scenes. -/
def nbE (xs : List Scene) : Int := if noneN xs = xs.length then 0 else if 0 < noneN xs then 5 else if risN xs = true then 0 else 7
def nbS (xs : List Scene) : List Scene := if noneN xs = xs.length then numL xs.length xs else cutS xs 0 xs.length
theorem noneN_le (xs : List Scene) : noneN xs ≤ xs.length := List.length_filter_le ..
theorem noneN_step {xs : List Scene} {k : Nat} (hk : k < xs.length) : noneN (xs.take (k + 1)) = noneN (xs.take k) + (if xs[k].no = ⟨#[]⟩ then 1 else 0) := by
  unfold noneN
  rw [List.take_succ_eq_append_getElem hk, List.filter_append, List.length_append]
  congr 1
  by_cases h : xs[k].no = ⟨#[]⟩
  · simp [h]
  · simp [h]
theorem risN_no {xs : List Scene} {i : Nat} (hi : i + 1 < xs.length) (h : ¬ 0 < cmpN (noAt xs (i + 1)) (noAt xs i)) : risN xs = false := by
  rw [← Bool.not_eq_true]
  intro h2
  have := List.all_eq_true.1 h2 i (List.mem_range.2 (by omega))
  exact h (of_decide_eq_true this)
theorem risN_yes {xs : List Scene} (h : ∀ i, i + 1 < xs.length → 0 < cmpN (noAt xs (i + 1)) (noAt xs i)) : risN xs = true :=
  List.all_eq_true.2 fun i hi => decide_eq_true (h i (by have := List.mem_range.1 hi; omega))
def NbP (t : ByteArray) (xs : List Scene) (w : World) (e : Ending) (w' : World) : Prop := ∃ (t' : ByteArray) (l : List (Scene × Value)) (v : Value), e = .returned (.tuple #[.agg (xCs t' v), .int .i64 (nbE xs)]) ∧ BI w l v [] w' ∧ (nbE xs = 0 → t' = t ∧ l.map (·.1) = nbS xs)
set_option maxRecDepth 100000 in
set_option maxHeartbeats 8000000 in
theorem rvNumb_c {F : Nat → Prop} (t : ByteArray) (ls : List (Scene × Value)) (v : Value) (w : World) (h : ScL w F t ls v) (hl : ls.length ≤ 91) (hc : chkE ⟨t, ls.map (·.1)⟩ = 0) (hm : MaxLaid w) (he : ErrsLaid w) :
    Calls Tryz.prog 36 #[.agg #[.string t, v]] w (NbP t (ls.map (·.1)) w) := by
  obtain ⟨A, c, rfl, hlc, hcm⟩ := h.sli.form
  obtain ⟨L, hL⟩ : ∃ L, ls.length = L := ⟨_, rfl⟩
  have HL := Lib.hid hL
  have HSC := Lib.hid (fun (W : World) (hb : Below w.heap.size w W) => h.below hb)
  have HMX := Lib.hid (fun (W : World) (hb : Below w.heap.size w W) => max_below hm hb (Nat.le_refl _))
  have HER := Lib.hid (fun (W : World) (hb : Below w.heap.size w W) => he.below hb (Nat.le_refl _))
  have HC := Lib.hid hc
  have HNS := Lib.hid (fun (k : Nat) (hk : k < ls.length) => show (ls[k]'hk).1.no.size ≤ 10000 from by
    have h := (LnOk.of (chkE_ok hc) (y := (ls[k]'hk).1) (List.mem_map_of_mem (List.getElem_mem hk))).ok.1
    rcases h with h | h
    · rw [h]; decide
    · have := numB_size h; omega)
  have HFO := Lib.hid (sli_forms h.par)
  rw [hL] at hl hlc HSC ⊢
  have m0 := ((BI.start w).new (xCs t (.slice A L c)) 56).new (xCs ⟨#[]⟩ (.slice none 0 0)) 56
  rw [show (w.alloc (.cells (xCs t (.slice A L c)) 56)).heap.size = w.heap.size + 1 by simp] at m0
  clear h hm he hc hL
  go_enter Tryz.func36, Tryz.ntmps36
  go_upto_region 1 with (fail)
  generalize hW : (w.alloc (.cells #[.string t, .slice A L c] 56)).alloc (.cells #[.string ⟨#[]⟩, .slice none 0 0] 56) = w1
  have G1 := Lib.hid (show BI w [] (.slice none 0 0) [(w.heap.size + 1, xCs ⟨#[]⟩ (.slice none 0 0), 56), (w.heap.size, xCs t (.slice A L c), 56)] w1 by rw [← hW]; exact m0)
  clear m0 hW
  have HXC := Lib.hid (fun (W : World) (h : BI w [] (.slice none 0 0) [(w.heap.size + 1, xCs ⟨#[]⟩ (.slice none 0 0), 56), (w.heap.size, xCs t (.slice A L c), 56)] W) => show (W.cell? ⟨w.heap.size, 0, none⟩ = some (.string t) ∧ W.cell? ⟨w.heap.size, 1, none⟩ = some (.slice A L c)) ∧ (W.cell? ⟨w.heap.size + 1, 0, none⟩ = some (.string ⟨#[]⟩) ∧ W.cell? ⟨w.heap.size + 1, 1, none⟩ = some (.slice none 0 0)) ∧ W.frozen? ⟨w.heap.size + 1, 0, none⟩ = false ∧ W.frozen? ⟨w.heap.size + 1, 1, none⟩ = false from
    have a := h.cell (p := (w.heap.size, xCs t (.slice A L c), 56)) (by simp)
    have b := h.cell (p := (w.heap.size + 1, xCs ⟨#[]⟩ (.slice none 0 0), 56)) (by simp)
    ⟨⟨a.1 0, a.1 1⟩, ⟨b.1 0, b.1 1⟩, b.2 0, b.2 1⟩)
  obtain ⟨⟨x0, x1⟩, _⟩ := HXC.out w1 G1.out
  obtain ⟨xs, hxs⟩ : ∃ xs, ls.map (·.1) = xs := ⟨_, rfl⟩
  have HXS := Lib.hid hxs
  have HXL := Lib.hid (show xs.length = L by rw [← hxs, List.length_map]; exact HL.out)
  have HXG := Lib.hid (fun (k : Nat) (hk : k < ls.length) => show ∃ hk2 : k < xs.length, xs[k]'hk2 = (ls[k]'hk).1 from by
    subst hxs
    exact ⟨by rw [List.length_map]; exact hk, by rw [List.getElem_map]⟩)
  clear hxs
  have HFIN := Lib.hid (fun (wx wy : World) (t' : ByteArray) (l : List (Scene × Value)) (v' : Value) (E : Int) (h : BI w [] (.slice none 0 0) [(w.heap.size + 1, xCs ⟨#[]⟩ (.slice none 0 0), 56), (w.heap.size, xCs t (.slice A L c), 56)] wx) (hc : BI wx l v' [] wy) (hE : nbE xs = E) (hr : E = 0 → t' = t ∧ l.map (·.1) = nbS xs) => show NbP t (ls.map (·.1)) w (.returned (.tuple #[.agg (xCs t' v'), .int .i64 E])) ((wy.setCell ⟨w.heap.size + 1, 0, none⟩ (.string t')).setCell ⟨w.heap.size + 1, 1, none⟩ v') from by
    have h1 := ((h.take hc).set (i := 0) (.string t') (by simp)).set (i := 1) v' (by simp)
    rw [HXS.out]
    exact ⟨t', l, v', by rw [hE], h1.less (by simp), by rw [hE]; exact hr⟩)
  go_wp2
  go_loopw [4, 12] (fun cv iv wr => ∃ k : Nat, k ≤ L ∧ iv = .int .i64 k ∧ cv = .int .i64 (noneN (xs.take k) : Int) ∧ Hid (BI w [] (.slice none 0 0) [(w.heap.size + 1, xCs ⟨#[]⟩ (.slice none 0 0), 56), (w.heap.size, xCs t (.slice A L c), 56)] wr)) (fun _ iv _ => L - (intOf iv).toNat)
  case atStart => exact ⟨0, Nat.zero_le _, rfl, rfl, G1⟩
  case round =>
    clear G1 x0 x1
    obtain ⟨k, hk, rfl, rfl, HG⟩ := hrel
    have hnk : noneN (xs.take k) ≤ 91 := by
      have h1 := noneN_le (xs.take k)
      rw [List.length_take] at h1
      omega
    by_cases hlt : k < L
    · have hkl : k < ls.length := by rw [HL.out]; exact hlt
      have hHr := HSC.out wr HG.out.bo.bel
      obtain ⟨b, off, rfl, hfb, c0, c1, c2, c3, c4⟩ := scAt hHr.sli k hkl
      obtain ⟨A4, n4, cc4, h4⟩ := HFO.out _ (List.getElem_mem hkl)
      rw [h4] at c4
      obtain ⟨hk2, hxe⟩ := HXG.out k hkl
      have hst := noneN_step hk2
      rw [hxe] at hst
      have HST := Lib.hid hst
      generalize (ls[k]'hkl).1 = x at *
      generalize noneN (xs.take k) = n0 at *
      have G5 := Lib.hid (HG.out.alloc (.cells #[.string x.no, .int .i64 x.place, .string x.set, .int .i64 x.time, .slice A4 n4 cc4] 64))
      clear hst hxe h4 hHr hkl hk2 HG
      cases ce : x.no.toList.isEmpty with
      | true =>
        have HN1 := Lib.hid (show noneN (xs.take (k + 1)) = n0 + 1 by rw [HST.out, if_pos ((empty_iff x.no).1 ce)])
        go_wp2
        go_roundw
        case rel => exact ⟨k + 1, by omega, intNum, by rw [HN1.out]; rfl, G5⟩
        case measure => simp [intOf]; omega
      | false =>
        have HN1 := Lib.hid (show noneN (xs.take (k + 1)) = n0 by rw [HST.out, if_neg (fun h => by rw [(empty_iff x.no).2 h] at ce; cases ce)]; rfl)
        go_wp2
        go_roundw
        case rel => exact ⟨k + 1, by omega, intNum, by rw [HN1.out], G5⟩
        case measure => simp [intOf]; omega
    · have hkL : k = L := by omega
      subst hkL
      have hall : xs.take k = xs := List.take_of_length_le (by rw [HXL.out]; exact Nat.le_refl _)
      rw [hall] at hnk ⊢
      obtain ⟨n0, hn0⟩ : ∃ n0, noneN xs = n0 := ⟨_, rfl⟩
      have HN0 := Lib.hid hn0
      rw [hn0] at hnk ⊢
      obtain ⟨⟨x0, x1⟩, ⟨z0, z1⟩, f0, f1⟩ := HXC.out wr HG.out
      have hW1 : w.heap.size + 1 < wr.heap.size := HG.out.bo.plt (p := (w.heap.size + 1, xCs ⟨#[]⟩ (.slice none 0 0), 56)) (by simp)
      clear hall hn0
      by_cases h1 : n0 = k
      · have e1 : ((n0 : Int) == (k : Int)) = true := by rw [h1]; exact beq_self_eq_true _
        have HE := Lib.hid (show nbE xs = 0 ∧ nbS xs = numL xs.length xs from ⟨if_pos (by rw [HN0.out, HXL.out, h1]), if_pos (by rw [HN0.out, HXL.out, h1])⟩)
        have HNU := Lib.hid ((Number_c t ls (.slice A k c) wr (HSC.out wr HG.out.bo.bel) (by rw [HL.out]; omega) (HMX.out wr HG.out.bo.bel)).mono (R' := fun e w' => ∃ (t' : ByteArray) (l : List (Scene × Value)) (v : Value), e = .returned (.tuple #[.agg (xCs t' v), .int .i64 0]) ∧ BI wr l v [] w' ∧ (t' = t ∧ l.map (·.1) = nbS xs)) fun e w' h => by
          obtain ⟨t', l, v, e1, e2, e3⟩ := h
          rw [HC.out] at e1 e3
          obtain ⟨e4, e5⟩ := e3 rfl
          exact ⟨t', l, v, e1, e2, e4, by rw [HE.out.2]; dsimp only at e5; rw [HXS.out] at e5; exact e5⟩)
        clear h1
        go_wp2_with fail
        refine HNU.out.mono ?_
        rintro e w4 ⟨t', l, v', rfl, hB, hr⟩
        obtain ⟨A2, c2, e2, _, _⟩ := (hB.bo.own.sliF (enc := fun x : Scene × Value => x.1.cells x.2) (hn := fun _ => rfl) (F := fun _ => True) (fun _ _ => trivial)).form
        subst e2
        have hx4 : w4.heap[w.heap.size + 1]? = some (.cells (xCs ⟨#[]⟩ (.slice none 0 0)) 56 (0, 0)) := (hB.bo.bel.block _ hW1).trans (HG.out.bo.prv (w.heap.size + 1, xCs ⟨#[]⟩ (.slice none 0 0), 56) (by simp)).1
        obtain ⟨gx, fx⟩ := str_cells hx4
        have z0' : w4.cell? ⟨w.heap.size + 1, 0, none⟩ = some (.string ⟨#[]⟩) := gx 0
        have z1' : w4.cell? ⟨w.heap.size + 1, 1, none⟩ = some (.slice none 0 0) := gx 1
        have f0' : w4.frozen? ⟨w.heap.size + 1, 0, none⟩ = false := fx 0
        have f1' : w4.frozen? ⟨w.heap.size + 1, 1, none⟩ = false := fx 1
        have HF := Lib.hid (HFIN.out wr w4 t' l _ 0 HG.out hB HE.out.1 (fun _ => hr))
        clear hB hr hx4 gx fx HNU x0 x1 z0 z1 f0 f1
        rw [show xCs t' (.slice A2 l.length c2) = #[.string t', .slice A2 l.length c2] from rfl]
        go_wp2
        refine ⟨rfl, .tuple #[.agg (xCs t' (.slice A2 l.length c2)), .int .i64 0], (by rw [results_cell_tmp rfl]; go_simp; rfl), ?_⟩
        exact HF.out
      · have e1 : ((n0 : Int) == (k : Int)) = false := by rw [beq_eq_false_iff_ne]; omega
        by_cases h2 : 0 < n0
        · have h2' : (0 : Int) < (n0 : Int) := by omega
          have HE := Lib.hid (show nbE xs = 5 by unfold nbE; rw [if_neg (by rw [HN0.out, HXL.out]; exact h1), if_pos (by rw [HN0.out]; exact h2)])
          have HF := Lib.hid (HFIN.out wr wr ⟨#[]⟩ [] (.slice none 0 0) 5 HG.out (BI.start wr) HE.out (fun h => by cases h))
          clear h1 h2
          go_wp2
          refine ⟨rfl, .tuple #[.agg (xCs ⟨#[]⟩ (.slice none 0 0)), .int .i64 5], (by rw [results_cell_tmp rfl]; go_simp; rfl), ?_⟩
          exact HF.out
        · have h2' : ¬ (0 : Int) < (n0 : Int) := by omega
          have HN1 := Lib.hid h1
          have HN2 := Lib.hid h2
          clear h1 h2
          go_wp2
          go_loopw [37] (fun iv wr => ∃ j : Nat, j ≤ k ∧ iv = .int .i64 j ∧ Hid (∀ i, i + 1 < j → 0 < cmpN (noAt xs (i + 1)) (noAt xs i)) ∧ Hid (BI w [] (.slice none 0 0) [(w.heap.size + 1, xCs ⟨#[]⟩ (.slice none 0 0), 56), (w.heap.size, xCs t (.slice A k c), 56)] wr)) (fun iv _ => k - (intOf iv).toNat)
          case atStart => exact ⟨0, Nat.zero_le _, rfl, (fun i hi => by omega), HG⟩
          case round =>
            clear HG x0 x1 z0 z1 f0 f1 hW1
            obtain ⟨j, hj, rfl, HRI, HG⟩ := hrel
            obtain ⟨⟨x0, x1⟩, ⟨z0, z1⟩, f0, f1⟩ := HXC.out wr HG.out
            have hW1 : w.heap.size + 1 < wr.heap.size := HG.out.bo.plt (p := (w.heap.size + 1, xCs ⟨#[]⟩ (.slice none 0 0), 56)) (by simp)
            by_cases hlt : j < k
            · have hkl : j < ls.length := by rw [HL.out]; exact hlt
              have hHr := HSC.out wr HG.out.bo.bel
              have hsl := hHr.sli
              have hltF := hHr.lt
              obtain ⟨b, off, rfl, hfb, c0, c1, c2, c3, c4⟩ := scAt hsl j hkl
              obtain ⟨A4, n4, cc4, h4⟩ := HFO.out _ (List.getElem_mem hkl)
              rw [h4] at c4
              obtain ⟨hk2, hxe⟩ := HXG.out j hkl
              have hns := HNS.out j hkl
              have HNA := Lib.hid (show noAt xs j = (ls[j]'hkl).1.no by unfold noAt; rw [List.getElem?_eq_getElem hk2, hxe]; rfl)
              have HPV := Lib.hid (fun (h0 : 0 < j) => show ∃ hj1 : j - 1 < ls.length, noAt xs (j - 1) = (ls[j - 1]'hj1).1.no ∧ (ls[j - 1]'hj1).1.no.size ≤ 10000 ∧ wr.cell? ⟨b, off + (j - 1) * 5, none⟩ = some (.string (ls[j - 1]'hj1).1.no) from by
                have hj1 : j - 1 < ls.length := by omega
                obtain ⟨hk3, hx3⟩ := HXG.out (j - 1) hj1
                obtain ⟨b', off', eb, _, d0, _⟩ := scAt hsl (j - 1) hj1
                injection eb with eb
                injection eb with eb1 eb2
                subst eb1
                subst eb2
                exact ⟨hj1, by unfold noAt; rw [List.getElem?_eq_getElem hk3, hx3]; rfl, HNS.out _ hj1, d0⟩)
              have hbw : b < wr.heap.size := hltF b hfb
              generalize (ls[j]'hkl).1 = x at *
              have hG5 := HG.out.alloc (.cells #[.string x.no, .int .i64 x.place, .string x.set, .int .i64 x.time, .slice A4 n4 cc4] 64)
              have hx5 := heap_alloc_new wr (.cells #[.string x.no, .int .i64 x.place, .string x.set, .int .i64 x.time, .slice A4 n4 cc4] 64)
              have hb5 := (Below.refl wr.heap.size wr).alloc (Nat.le_refl _) (.cells #[.string x.no, .int .i64 x.place, .string x.set, .int .i64 x.time, .slice A4 n4 cc4] 64)
              have hXw : wr.heap.size < (wr.alloc (.cells #[.string x.no, .int .i64 x.place, .string x.set, .int .i64 x.time, .slice A4 n4 cc4] 64)).heap.size := by simp
              clear hxe h4 hHr hk2 hsl hltF hkl
              go_upto_region 15 with (fail)
              generalize wr.alloc (.cells #[.string x.no, .int .i64 x.place, .string x.set, .int .i64 x.time, .slice A4 n4 cc4] 64) = w5 at *
              have y0 : w5.cell? ⟨wr.heap.size, 0, none⟩ = some (.string x.no) := (str_cells hx5).1 0
              have x1' : w5.cell? ⟨w.heap.size, 1, none⟩ = some (.slice (some ⟨b, off, none⟩) k c) := (hb5.cell (p := ⟨w.heap.size, 1, none⟩) (by show w.heap.size < _; omega)).trans x1
              have G5 := Lib.hid hG5
              generalize wr.heap.size = X at *
              clear hG5 hx5 x0 x1 c0 c1 c2 c3 c4 z0 z1 f0 f1
              go_cut [56] (fun cv wx => cv = .bool (decide (0 < j ∧ ¬ 0 < cmpN (noAt xs j) (noAt xs (j - 1)))) ∧ Hid (BI w [] (.slice none 0 0) [(w.heap.size + 1, xCs ⟨#[]⟩ (.slice none 0 0), 56), (w.heap.size, xCs t (.slice (some ⟨b, off, none⟩) k c), 56)] wx))
              case first =>
                by_cases j0 : j = 0
                · have HT := Lib.hid (show decide (0 < j ∧ ¬ 0 < cmpN (noAt xs j) (noAt xs (j - 1))) = false from decide_eq_false (fun h => by omega))
                  have j1 : decide ((0 : Int) < (j : Int)) = false := decide_eq_false (by omega)
                  have j2 : decide (0 < j) = false := decide_eq_false (by omega)
                  clear j0
                  go_region
                  go_wp2
                  go_meet
                  exact ⟨by rw [HT.out], by first | exact G5 | exact Lib.hid G5.out.drew⟩
                · have hj0 : 0 < j := by omega
                  obtain ⟨hj1, hn1, hs1, d0⟩ := HPV.out hj0
                  have d0' : w5.cell? ⟨b, off + (j - 1) * 5, none⟩ = some (.string (ls[j - 1]'hj1).1.no) := (hb5.cell (p := ⟨b, off + (j - 1) * 5, none⟩) hbw).trans d0
                  have HN1' := Lib.hid hn1
                  generalize (ls[j - 1]'hj1).1.no = q at *
                  have s0 : ∀ (d : Nat) (os : Array Obj), (Sort.grow (redrawn w5 d) os).cell? ⟨X, 0, none⟩ = some (.string x.no) := fun d os => ((below_regrown w5 d os).cell (p := ⟨X, 0, none⟩) hXw).trans y0
                  have s1 : ∀ (d : Nat) (os : Array Obj), (Sort.grow (redrawn w5 d) os).cell? ⟨w.heap.size, 1, none⟩ = some (.slice (some ⟨b, off, none⟩) k c) := fun d os => ((below_regrown w5 d os).cell (p := ⟨w.heap.size, 1, none⟩) (by show w.heap.size < _; omega)).trans x1'
                  have s2 : ∀ (d : Nat) (os : Array Obj), (Sort.grow (redrawn w5 d) os).cell? ⟨b, off + (j - 1) * 5, none⟩ = some (.string q) := fun d os => ((below_regrown w5 d os).cell (p := ⟨b, off + (j - 1) * 5, none⟩) (by show b < _; omega)).trans d0'
                  have HCM := Lib.hid (fun (d : Nat) (os : Array Obj) => compare_c x.no q (Sort.grow (redrawn w5 d) os) hns hs1 (HER.out _ (G5.out.bo.bel.trans ((below_regrown w5 d os).mono G5.out.bo.size))))
                  have hjw : IntKind.i64.wrap ((j : Int) - 1) = ((j - 1 : Nat) : Int) := by rw [IntWalk.i64_in _ (by omega)]; omega
                  have hj2 : (0 : Int) < (j : Int) := by omega
                  have hj3 : j - 1 < k := by omega
                  clear d0 d0' hn1
                  by_cases hcp : 0 < cmpN x.no q
                  · have HT := Lib.hid (show decide (0 < j ∧ ¬ 0 < cmpN x.no q) = false from decide_eq_false (fun h => h.2 hcp))
                    generalize hz : cmpN x.no q = z at *
                    have HZ := Lib.hid hz
                    clear hz
                    have hcp2 : ¬ z ≤ 0 := by omega
                    refine wp_region_quiet_below (by kernel_rfl) (by kernel_rfl) ?_
                    repeat (first | go_big_quiet_step ((go_at_call 41; exact Calls.regrown_of (HCM.out _ _))) | quiet_step ((go_at_call 41; exact Calls.regrown_of (HCM.out _ _))))
                    refine wpQuiet_nil ?_
                    intro wy hwy
                    have hby := below_of_regrown hwy
                    clear hwy
                    go_wp2
                    go_meet
                    exact ⟨by rw [HNA.out, HN1'.out, HZ.out, HT.out], Lib.hid (G5.out.below hby)⟩
                  · have HT := Lib.hid (show decide (0 < j ∧ ¬ 0 < cmpN x.no q) = true from decide_eq_true ⟨hj0, hcp⟩)
                    generalize hz : cmpN x.no q = z at *
                    have HZ := Lib.hid hz
                    clear hz
                    have hcp2 : z ≤ 0 := by omega
                    refine wp_region_quiet_below (by kernel_rfl) (by kernel_rfl) ?_
                    repeat (first | go_big_quiet_step ((go_at_call 41; exact Calls.regrown_of (HCM.out _ _))) | quiet_step ((go_at_call 41; exact Calls.regrown_of (HCM.out _ _))))
                    refine wpQuiet_nil ?_
                    intro wy hwy
                    have hby := below_of_regrown hwy
                    clear hwy
                    go_wp2
                    go_meet
                    exact ⟨by rw [HNA.out, HN1'.out, HZ.out, HT.out], Lib.hid (G5.out.below hby)⟩
              case rest =>
                clear G5 y0 x1'
                obtain ⟨rfl, G6⟩ := hcut
                obtain ⟨_, ⟨z0, z1⟩, f0, f1⟩ := HXC.out wc G6.out
                by_cases hbd : 0 < j ∧ ¬ 0 < cmpN (noAt xs j) (noAt xs (j - 1))
                · have HE := Lib.hid (show nbE xs = 7 by
                    unfold nbE
                    rw [if_neg (by rw [HN0.out, HXL.out]; exact HN1.out), if_neg (by rw [HN0.out]; exact HN2.out), risN_no (i := j - 1) (by rw [HXL.out]; omega) (by rw [show j - 1 + 1 = j by omega]; exact hbd.2)]
                    rfl)
                  have HF := Lib.hid (HFIN.out wc wc ⟨#[]⟩ [] (.slice none 0 0) 7 G6.out (BI.start wc) HE.out (fun h => by cases h))
                  rw [decide_eq_true hbd]
                  clear hbd
                  go_wp2
                  refine ⟨rfl, .tuple #[.agg (xCs ⟨#[]⟩ (.slice none 0 0)), .int .i64 7], (by rw [results_cell_tmp rfl]; go_simp; rfl), ?_⟩
                  exact HF.out
                · have HRI2 := Lib.hid (show ∀ i, i + 1 < j + 1 → 0 < cmpN (noAt xs (i + 1)) (noAt xs i) from fun i hi => by
                    by_cases e : i + 1 = j
                    · have := Classical.not_not.1 (fun h => hbd ⟨by omega, h⟩)
                      rw [← e, Nat.add_sub_cancel] at this
                      exact this
                    · exact HRI.out i (by omega))
                  rw [decide_eq_false hbd]
                  clear hbd z0 z1 f0 f1
                  go_wp2
                  go_roundw
                  case rel => exact ⟨j + 1, by omega, intNum, HRI2, G6⟩
                  case measure => simp [intOf]; omega
            · have hjk : j = k := by omega
              subst hjk
              have HE := Lib.hid (show nbE xs = 0 ∧ nbS xs = cutS xs 0 xs.length from by
                have hr : risN xs = true := risN_yes (fun i hi => HRI.out i (by rw [HXL.out] at hi; exact hi))
                have hn : ¬ noneN xs = xs.length := by rw [HN0.out, HXL.out]; exact HN1.out
                exact ⟨by unfold nbE; rw [if_neg hn, if_neg (by rw [HN0.out]; exact HN2.out), if_pos hr], by unfold nbS; rw [if_neg hn]⟩)
              have HNU := Lib.hid ((Cut_c t ls (.slice A j c) wr (HSC.out wr HG.out.bo.bel) (by rw [HL.out]; omega) (HMX.out wr HG.out.bo.bel) 0 (j : Int) (by omega) (by omega)).mono (R' := fun e w' => ∃ (t' : ByteArray) (l : List (Scene × Value)) (v : Value), e = .returned (.tuple #[.agg (xCs t' v), .int .i64 0]) ∧ BI wr l v [] w' ∧ (t' = t ∧ l.map (·.1) = nbS xs)) fun e w' h => by
                obtain ⟨t', l, v, E, e1, e2, e3⟩ := h
                rw [HC.out] at e3
                rcases e3 with ⟨h1, _⟩ | ⟨_, h1, _⟩ | ⟨_, h1, h2, h3, h4, h5, h6⟩
                · exact absurd rfl h1
                · dsimp only at h1
                  rw [HXS.out, HXL.out] at h1
                  omega
                · subst h4
                  refine ⟨t', l, v, e1, e2, h5, ?_⟩
                  rw [HE.out.2, HXL.out]
                  dsimp only at h6
                  rw [HXS.out] at h6
                  exact h6)
              go_wp2_with fail
              refine HNU.out.mono ?_
              rintro e w4 ⟨t', l, v', rfl, hB, hr⟩
              obtain ⟨A2, c2, e2, _, _⟩ := (hB.bo.own.sliF (enc := fun x : Scene × Value => x.1.cells x.2) (hn := fun _ => rfl) (F := fun _ => True) (fun _ _ => trivial)).form
              subst e2
              have hx4 : w4.heap[w.heap.size + 1]? = some (.cells (xCs ⟨#[]⟩ (.slice none 0 0)) 56 (0, 0)) := (hB.bo.bel.block _ hW1).trans (HG.out.bo.prv (w.heap.size + 1, xCs ⟨#[]⟩ (.slice none 0 0), 56) (by simp)).1
              obtain ⟨gx, fx⟩ := str_cells hx4
              have z0' : w4.cell? ⟨w.heap.size + 1, 0, none⟩ = some (.string ⟨#[]⟩) := gx 0
              have z1' : w4.cell? ⟨w.heap.size + 1, 1, none⟩ = some (.slice none 0 0) := gx 1
              have f0' : w4.frozen? ⟨w.heap.size + 1, 0, none⟩ = false := fx 0
              have f1' : w4.frozen? ⟨w.heap.size + 1, 1, none⟩ = false := fx 1
              have HF := Lib.hid (HFIN.out wr w4 t' l _ 0 HG.out hB HE.out.1 (fun _ => hr))
              clear hB hr hx4 gx fx HNU x0 x1 z0 z1 f0 f1
              rw [show xCs t' (.slice A2 l.length c2) = #[.string t', .slice A2 l.length c2] from rfl]
              go_wp2
              refine ⟨rfl, .tuple #[.agg (xCs t' (.slice A2 l.length c2)), .int .i64 0], (by rw [results_cell_tmp rfl]; go_simp; rfl), ?_⟩
              exact HF.out
end Go.Proofs.YtnnnmbipmfopmaaGreatDoor

/- The blocks of entries in memory beside two maps; what revise.made makes, in plain words. -/
namespace Go.Proofs.YtnnnmbipmfopmaaGreatDoor
set_option linter.unusedVariables false
open Go.RowKit Go.Sort

theorem frN_int (d : Nat) (fs : List Value) (fi : Int) (h : ∀ v ∈ fs, ∃ z : Int, v = .int .i64 z) : ∀ v ∈ (frN d fs fi).1, ∃ z : Int, v = .int .i64 z := fun v hv => by
  unfold frN at hv
  split at hv
  · exact h v hv
  · rcases List.mem_append.1 hv with hv | hv
    · exact h v hv
    · rcases List.mem_cons.1 hv with hv | hv
      · exact ⟨_, hv⟩
      · exact ⟨_, List.eq_of_mem_replicate hv⟩
theorem layF_int : ∀ (l : List Blk) (i : Nat) (P : List (List ByteArray)) (pg : List ByteArray) (F : FrQ), (∀ v ∈ F.1, ∃ z : Int, v = .int .i64 z) → ∀ v ∈ (layF l i P pg F).1, ∃ z : Int, v = .int .i64 z
  | [], _, _, _, _, h => h
  | b :: r, i, P, pg, F, h => by
    rw [layF]
    apply layF_int r
    apply frN_int
    intro v hv
    by_cases hc : topB b r pg = true ∧ ¬ pg = []
    · rw [if_pos hc] at hv
      rcases List.mem_append.1 hv with hv | hv
      · exact h v hv
      · exact ⟨_, List.mem_singleton.1 hv⟩
    · rw [if_neg hc] at hv
      exact h v hv
theorem frsB_int (l : List Blk) : ∀ v ∈ frsB l, ∃ z : Int, v = .int .i64 z := fun v hv => by
  unfold frsB at hv
  rcases List.mem_append.1 hv with hv | hv
  · exact layF_int l 0 [] [] ([], -1) (fun v hv => by cases hv) v hv
  · split at hv
    · cases hv
    · exact ⟨_, List.mem_singleton.1 hv⟩
theorem keyMs : PlainKey Tryz.prog 9 Value.string := plainKey_string Tryz.underlying9
theorem keyMi : PlainKey Tryz.prog 3 (Value.int .i64) := plainKey_int Tryz.underlying3
theorem zeroSc (w : World) : (zeroValue 64).run Tryz.prog w = .ok (.agg #[.string ⟨#[]⟩, .int .i64 0, .string ⟨#[]⟩, .int .i64 0, .slice none 0 0]) w := by kernel_rfl
theorem zeroSt (w : World) : (zeroValue 9).run Tryz.prog w = .ok (.string ⟨#[]⟩) w := by kernel_rfl
/-- A scene as a map holds it. -/
def scV (y : Scene × Value) : Value := .agg #[.string y.1.no, .int .i64 y.1.place, .string y.1.set, .int .i64 y.1.time, y.2]
def mpC (ls : List (Scene × Value)) : Nat → List (ByteArray × Value)
  | 0 => []
  | k + 1 => match ls[k]? with
    | some y => up (mpC ls k) y.1.no (scV y)
    | none => mpC ls k
/-- The last scene with a number. -/
def fndS (ls : List (Scene × Value)) (s : ByteArray) : Option (Scene × Value) := ls.foldl (fun r y => if s = y.1.no then some y else r) none
def fndX (xs : List Scene) (s : ByteArray) : Option Scene := xs.foldl (fun r y => if s = y.no then some y else r) none
theorem fnd_map (ls : List (Scene × Value)) (s : ByteArray) : fndX (ls.map (·.1)) s = (fndS ls s).map (·.1) := by
  unfold fndX fndS
  have key : ∀ (l : List (Scene × Value)) (r : Option (Scene × Value)), (l.map (·.1)).foldl (fun r y => if s = y.no then some y else r) (r.map (·.1)) = (l.foldl (fun r y => if s = y.1.no then some y else r) r).map (·.1) := by
    intro l
    induction l with
    | nil => intro r; rfl
    | cons y l ih =>
      intro r
      rw [List.map_cons, List.foldl_cons, List.foldl_cons, ← ih]
      congr 1
      split <;> rfl
  exact key ls none
theorem fnd_mem {ls : List (Scene × Value)} {s : ByteArray} {y : Scene × Value} (h : fndS ls s = some y) : y ∈ ls := by
  unfold fndS at h
  have key : ∀ (l : List (Scene × Value)) (r : Option (Scene × Value)), l.foldl (fun r y => if s = y.1.no then some y else r) r = some y → y ∈ l ∨ r = some y := by
    intro l
    induction l with
    | nil => intro r h; exact .inr h
    | cons x l ih =>
      intro r h
      rw [List.foldl_cons] at h
      rcases ih _ h with h | h
      · exact .inl (List.mem_cons_of_mem _ h)
      · split at h
        · injection h with h; subst h; exact .inl (List.mem_cons_self ..)
        · exact .inr h
  rcases key ls none h with h | h
  · exact h
  · cases h
theorem lk_mpC {ls : List (Scene × Value)} {s : ByteArray} : ∀ k, k ≤ ls.length → lk (mpC ls k) s = (fndS (ls.take k) s).map scV
  | 0, _ => rfl
  | k + 1, hk => by
    have hkl : k < ls.length := by omega
    have ih := lk_mpC (ls := ls) (s := s) k (by omega)
    rw [mpC, List.getElem?_eq_getElem hkl, List.take_succ_eq_append_getElem hkl]
    dsimp only
    rw [lk_up, ih]
    unfold fndS
    rw [List.foldl_append, List.foldl_cons, List.foldl_nil]
    by_cases h : s = ls[k].1.no
    · rw [if_pos h, if_pos h]; rfl
    · rw [if_neg h, if_neg h]
def omitS : ByteArray := ⟨#[32, 79, 77, 73, 84, 84, 69, 68]⟩
/-- The blocks of an entry: those of its scene, or the line of one that is gone. -/
def entB (xs : List Scene) (no : ByteArray) : List Blk := match fndX xs no with
  | some x => blocksS x
  | none => [blkWrap 0 (no ++ omitS)]
def allB2 (xs : List Scene) (nos : List ByteArray) : List Blk := (nos.map (entB xs)).flatten
def hdM (xs : List Scene) (nos : List ByteArray) : Nat → List (Int × Value)
  | 0 => []
  | k + 1 => match nos[k]? with
    | some no => up (hdM xs nos k) ((allB2 xs (nos.take k)).length : Int) (.string no)
    | none => hdM xs nos k
def strV (o : Option Value) : ByteArray := match o with
  | some (.string s) => s
  | _ => ⟨#[]⟩
def intV (v : Value) : Int := match v with
  | .int _ z => z
  | _ => 0
/-- Of each page the number of the entry that begins it. -/
def frsS (xs : List Scene) (nos : List ByteArray) : List ByteArray := (frsB (allB2 xs nos)).map fun v => strV (lk (hdM xs nos nos.length) (intV v))
theorem hdM_str (xs : List Scene) (nos : List ByteArray) : ∀ k z v, lk (hdM xs nos k) z = some v → ∃ s, v = .string s
  | 0, z, v, h => by cases h
  | k + 1, z, v, h => by
    rw [hdM] at h
    cases hn : nos[k]? with
    | none => rw [hn] at h; exact hdM_str xs nos k z v h
    | some no =>
      rw [hn] at h
      dsimp only at h
      rw [lk_up] at h
      split at h
      · injection h with h; exact ⟨no, h.symm⟩
      · exact hdM_str xs nos k z v h
theorem hdM_val (xs : List Scene) (nos : List ByteArray) (k : Nat) (z : Int) : (lk (hdM xs nos k) z).getD (.string ⟨#[]⟩) = .string (strV (lk (hdM xs nos k) z)) := by
  cases h : lk (hdM xs nos k) z with
  | none => rfl
  | some v =>
    obtain ⟨s, rfl⟩ := hdM_str xs nos k z v h
    rfl
theorem allB2_step {xs : List Scene} {nos : List ByteArray} {k : Nat} (hk : k < nos.length) : allB2 xs (nos.take (k + 1)) = allB2 xs (nos.take k) ++ entB xs nos[k] := by
  unfold allB2
  rw [List.take_succ_eq_append_getElem hk, List.map_append, List.flatten_append, List.map_cons, List.map_nil, List.flatten_cons, List.flatten_nil, List.append_nil]
theorem hdM_step {xs : List Scene} {nos : List ByteArray} {k : Nat} (hk : k < nos.length) : hdM xs nos (k + 1) = up (hdM xs nos k) ((allB2 xs (nos.take k)).length : Int) (.string nos[k]) := by
  rw [hdM, List.getElem?_eq_getElem hk]
theorem omit_good (no : ByteArray) (hn : no.size ≤ 100) : GoodB (blkWrap 0 (no ++ omitS)) ∧ BkOk (blkWrap 0 (no ++ omitS)) ∧ (blkWrap 0 (no ++ omitS)).lines.length ≤ 8500 := by
  have hsz : (no ++ omitS).size ≤ 108 := by
    rw [ByteArray.size_append]
    have : omitS.size = 8 := rfl
    omega
  have h1 := wrapT_few (no ++ omitS) (wd := 60) (by decide)
  have hw : wordsA (no ++ omitS).data.toList [] ≠ [] := wordsA_some _ _ ⟨79, by
    rw [show (no ++ omitS).data.toList = no.data.toList ++ omitS.data.toList by simp]
    exact List.mem_append_right _ (by decide), by decide⟩
  have hl : (blkWrap 0 (no ++ omitS)).lines.length ≤ 10 := by show (wrapT (no ++ omitS) 60).length ≤ 10; omega
  exact ⟨⟨wrapT_pos (by decide) hw, fun _ _ => by omega, (fun k => by cases k), (fun k => by cases k)⟩, ⟨by omega, (fun k => by cases k), by show (0 : Nat) ≤ _; omega⟩, by omega⟩
theorem fndX_mem {xs : List Scene} {s : ByteArray} {x : Scene} (h : fndX xs s = some x) : x ∈ xs := by
  have h2 := fnd_map (xs.map fun x => (x, Value.slice none 0 0)) s
  have h3 : (xs.map fun x => (x, Value.slice none 0 0)).map (·.1) = xs := by simp [List.map_map, Function.comp_def]
  rw [h3, h] at h2
  cases h4 : fndS (xs.map fun x => (x, Value.slice none 0 0)) s with
  | none => rw [h4] at h2; cases h2
  | some y =>
    rw [h4] at h2
    injection h2 with h2
    have h5 := fnd_mem h4
    obtain ⟨z, hz, e⟩ := List.mem_map.1 h5
    rw [h2, ← e]
    exact hz
theorem entB_few {xs : List Scene} {no : ByteArray} (h1 : ∀ x ∈ xs, LnOk x) (h2 : ∀ x ∈ xs, x.paras.length ≤ 61) (hn : no.size ≤ 100) : (entB xs no).length ≤ 62 ∧ ∀ b ∈ entB xs no, GoodB b ∧ BkOk b ∧ b.lines.length ≤ 8500 := by
  unfold entB
  cases h : fndX xs no with
  | none => exact ⟨by show 1 ≤ 62; omega, fun b hb => by rw [List.mem_singleton.1 hb]; exact omit_good no hn⟩
  | some x =>
    have hx := fndX_mem h
    obtain ⟨a, b⟩ := blocks_few (h1 x hx) (h2 x hx)
    refine ⟨a, fun y hy => ?_⟩
    have hg := blocks_good (h1 x hx) y hy
    have hd := b y hy
    exact ⟨hg, ⟨by omega, hg.ks, by omega⟩, hd.1⟩
theorem allB2_few {xs : List Scene} (h1 : ∀ x ∈ xs, LnOk x) (h2 : ∀ x ∈ xs, x.paras.length ≤ 61) : ∀ (nos : List ByteArray), (∀ n ∈ nos, n.size ≤ 100) → (allB2 xs nos).length ≤ nos.length * 62 ∧ ∀ b ∈ allB2 xs nos, GoodB b ∧ BkOk b ∧ b.lines.length ≤ 8500
  | [], _ => ⟨Nat.le_refl _, fun b hb => by cases hb⟩
  | n :: r, hn => by
    obtain ⟨a, b⟩ := allB2_few h1 h2 r (fun y hy => hn y (by simp [hy]))
    obtain ⟨c, d⟩ := entB_few h1 h2 (hn n (by simp))
    unfold allB2 at a b ⊢
    rw [List.map_cons, List.flatten_cons, List.length_append, List.length_cons]
    refine ⟨by omega, fun y hy => ?_⟩
    rcases List.mem_append.1 hy with hy | hy
    · exact d y hy
    · exact b y hy
/-- Blocks gathered beside two maps. -/
abbrev BQF (w : World) (v : Value) (M1 M2 : Nat) (wx : World) (q : Nat) : Prop := w.heap.size ≤ q ∧ q < wx.heap.size ∧ v.ownBlock ≠ some q ∧ q ≠ M1 ∧ q ≠ M2
structure BQ (w : World) (l : List BkT) (v : Value) (M1 M2 : Nat) (m1 : List (ByteArray × Value)) (m2 : List (Int × Value)) (wx : World) : Prop where
  bel : Below w.heap.size w wx
  bo : Own bkR wx w.heap.size w.heap.size 106 l v
  ma : MapL wx M1 Value.string m1
  mb : MapL wx M2 (Value.int .i64) m2
  ne : M1 ≠ M2 ∧ v.ownBlock ≠ some M1 ∧ v.ownBlock ≠ some M2 ∧ w.heap.size ≤ M1 ∧ w.heap.size ≤ M2
  ln : ∀ y ∈ l, Sli strR wx (BQF w v M1 M2 wx) y.1.lines y.2.1
  kd : ∀ y ∈ l, Sli knR wx (BQF w v M1 M2 wx) y.1.kinds y.2.2
section
variable {w wx wy : World} {l : List BkT} {v : Value} {M1 M2 : Nat} {m1 : List (ByteArray × Value)} {m2 : List (Int × Value)}
theorem BQ.below (h : BQ w l v M1 M2 m1 m2 wx) (hb : Below wx.heap.size wx wy) : BQ w l v M1 M2 m1 m2 wy := by
  have key : ∀ {α : Type} {R : Rep α} (k : List α) z, Sli R wx (BQF w v M1 M2 wx) k z → Sli R wy (BQF w v M1 M2 wy) k z := fun k z hs =>
    (hs.below hb (fun q hq => hq.2.1)).more fun q hq => ⟨hq.1, Nat.lt_of_lt_of_le hq.2.1 hb.size, hq.2.2⟩
  exact ⟨h.bel.trans (hb.mono h.bel.size), h.bo.below hb, h.ma.below hb h.ma.lt, h.mb.below hb h.mb.lt, h.ne, fun y hy => key _ _ (h.ln y hy), fun y hy => key _ _ (h.kd y hy)⟩
theorem BQ.alloc (h : BQ w l v M1 M2 m1 m2 wx) (o : Obj) : BQ w l v M1 M2 m1 m2 (wx.alloc o) := h.below ((Below.refl _ wx).alloc (Nat.le_refl _) o)
theorem BQ.setM {m2' : List (Int × Value)} (h : BQ w l v M1 M2 m1 m2 wx) (hm : MapL wy M2 (Value.int .i64) m2') (hg : wx.grownBy wy (some M2)) : BQ w l v M1 M2 m1 m2' wy := by
  have hM2 : ∀ q, q < wx.heap.size → q ≠ M2 → wy.heap[q]? = wx.heap[q]? := fun q hq hn => hg.block q hq (fun e => by injection e with e; exact hn e)
  have key : ∀ {α : Type} {R : Rep α} (k : List α) z, Sli R wx (BQF w v M1 M2 wx) k z → Sli R wy (BQF w v M1 M2 wy) k z := fun k z hs =>
    (hs.keep fun q hq => hM2 q hq.2.1 hq.2.2.2.2).more fun q hq => ⟨hq.1, Nat.lt_of_lt_of_le hq.2.1 hg.size, hq.2.2⟩
  exact ⟨h.bel.grown hg h.bel.size (fun q hq => by injection hq with hq; rw [← hq]; exact h.ne.2.2.2.2), Own.keepF (n := 4) (enc := bkCs) (hn := fun _ => rfl) h.bo (fun q hq => hM2 q (h.bo.block q hq).2 (fun e => h.ne.2.2.1 (by rw [hq, e]))) hg.size,
    h.ma.keep (hM2 M1 h.ma.lt h.ne.1), hm, h.ne, fun y hy => key _ _ (h.ln y hy), fun y hy => key _ _ (h.kd y hy)⟩
theorem BQ.more {l2 : List BkT} {v' : Value} {g : Nat} (h : BQ w l v M1 M2 m1 m2 wx) (hown : Own bkR wy w.heap.size w.heap.size 106 (l ++ l2) v') (hg : wx.grownBy wy v.ownBlock) (hv : v'.ownBlock = some g) (hat : v.ownBlock = some g ∨ g = wx.heap.size)
    (h1 : ∀ y ∈ l2, Sli strR wx (BQF w v M1 M2 wx) y.1.lines y.2.1) (h2 : ∀ y ∈ l2, Sli knR wx (BQF w v M1 M2 wx) y.1.kinds y.2.2) : BQ w (l ++ l2) v' M1 M2 m1 m2 wy := by
  have hne : ∀ q, q < wx.heap.size → v.ownBlock ≠ some q → v'.ownBlock ≠ some q := fun q hq hn e => by
    rw [hv] at e
    injection e with e
    rcases hat with hat | hat
    · exact hn (by rw [hat, e])
    · omega
  have hk : ∀ q, q < wx.heap.size → v.ownBlock ≠ some q → wy.heap[q]? = wx.heap[q]? := fun q hq hn => hg.block q hq (fun e => hn e.symm)
  have key : ∀ {α : Type} {R : Rep α} (k : List α) z, Sli R wx (BQF w v M1 M2 wx) k z → Sli R wy (BQF w v' M1 M2 wy) k z := fun k z hs =>
    (hs.keep fun q hq => hk q hq.2.1 hq.2.2.1).more fun q hq => ⟨hq.1, Nat.lt_of_lt_of_le hq.2.1 hg.size, hne q hq.2.1 hq.2.2.1, hq.2.2.2⟩
  refine ⟨h.bel.grown hg h.bel.size (fun q hq => (h.bo.block q hq).1), hown, h.ma.keep (hk M1 h.ma.lt h.ne.2.1), h.mb.keep (hk M2 h.mb.lt h.ne.2.2.1), ⟨h.ne.1, hne _ h.ma.lt h.ne.2.1, hne _ h.mb.lt h.ne.2.2.1, h.ne.2.2.2⟩, fun x hx => ?_, fun x hx => ?_⟩
  · rcases List.mem_append.1 hx with hx | hx
    · exact key _ _ (h.ln x hx)
    · exact key _ _ (h1 x hx)
  · rcases List.mem_append.1 hx with hx | hx
    · exact key _ _ (h.kd x hx)
    · exact key _ _ (h2 x hx)
theorem BQ.fresh {α : Type} {R : Rep α} {k : List α} {z : Value} (h : BQ w l v M1 M2 m1 m2 wx) (hz : wx.heap.size ≤ wy.heap.size) (hs : Sli R wy (fun q => wx.heap.size ≤ q ∧ q < wy.heap.size) k z) : Sli R wy (BQF w v M1 M2 wy) k z :=
  hs.more fun q hq => ⟨Nat.le_trans h.bel.size hq.1, hq.2, fun e => by have := (h.bo.block q e).2; omega, fun e => by have := h.ma.lt; omega, fun e => by have := h.mb.lt; omega⟩
theorem BQ.bkl (h : BQ w l v M1 M2 m1 m2 wx) : BkL wx (fun q => w.heap.size ≤ q ∧ q < wx.heap.size) l v :=
  ⟨h.bo.sli (fun b h1 h2 => ⟨h1, h2⟩) (fun g hg => h.bo.block g hg), fun y hy => (h.ln y hy).more fun q hq => ⟨hq.1, hq.2.1⟩, fun y hy => (h.kd y hy).more fun q hq => ⟨hq.1, hq.2.1⟩, fun q hq => hq.2⟩
end
def MadP (xs : List Scene) (nos : List ByteArray) (w : World) (e : Ending) (w' : World) : Prop := ∃ (Ps : List (List ByteArray × Value)) (pV fV : Value), e = .returned (.tuple #[pV, fV]) ∧ Below w.heap.size w w' ∧ Ps.map (·.1) = pagesB (allB2 xs nos) ∧ (frsS xs nos).length = Ps.length ∧ Ps.length ≤ 700000000 ∧
  Sli valR w' (fun q => w.heap.size ≤ q ∧ q < w'.heap.size) (Ps.map (·.2)) pV ∧ (∀ q ∈ Ps, Sli strR w' (fun q => w.heap.size ≤ q ∧ q < w'.heap.size) q.1 q.2) ∧ Sli strR w' (fun q => w.heap.size ≤ q ∧ q < w'.heap.size) (frsS xs nos) fV
end Go.Proofs.YtnnnmbipmfopmaaGreatDoor

/- slices.SortFunc of at most one text; revise.entries, walked. -/
namespace Go.Proofs.YtnnnmbipmfopmaaGreatDoor
set_option linter.unusedVariables false
open Go.RowKit Go.Sort

set_option maxRecDepth 100000 in
set_option maxHeartbeats 4000000 in
theorem insSort1_c (A : Option Addr) (n c : Nat) (fv : Value) (w : World) (hn : n ≤ 1) :
    Calls Tryz.prog 118 #[.slice A n c, .int .i64 0, .int .i64 n, fv] w (fun e w' => e = .returned (.tuple #[]) ∧ w' = w) := by
  go_enter Tryz.func118, Tryz.ntmps118
  go_wp2
  refine wp_loop_rounds 1 ?_
  rw [rounds_succ]
  have h1 : ¬ ((0 : Int) + 1 < (n : Int)) := by omega
  go_wp2
  go_end0
  exact ⟨rfl, rfl⟩
set_option maxRecDepth 100000 in
set_option maxHeartbeats 4000000 in
theorem pdqSort1_c (A : Option Addr) (n c : Nat) (lim : Int) (fv : Value) (w : World) (hn : n ≤ 1) :
    Calls Tryz.prog 91 #[.slice A n c, .int .i64 0, .int .i64 n, .int .i64 lim, fv] w (fun e w' => e = .returned (.tuple #[]) ∧ w' = w) := by
  have HI := Lib.hid (fun W => insSort1_c A n c fv W hn)
  go_enter Tryz.func91, Tryz.ntmps91
  go_wp2
  refine wp_loop_rounds 1 ?_
  rw [rounds_succ]
  go_wp2_with (refine (HI.out _).mono ?_; rintro e w' ⟨rfl, rfl⟩)
  (try simp only [Exit.inBlock, Exit.then]); refine bodyPost_ret (results_none rfl _ _ _) rfl ?_
  exact ⟨rfl, rfl⟩
set_option maxRecDepth 100000 in
set_option maxHeartbeats 4000000 in
theorem cloneNil_c (w : World) : Calls Tryz.prog 22 #[.slice none 0 0] w (fun e w' => e = .returned (.slice none 0 0) ∧ w' = w) := by
  have q22 : ∀ (w : World) (a : Option Addr) (n c n' c' : Nat), (binOp .eql 26 (.slice a n c) (.slice none n' c')).run Tryz.prog w = .ok (.bool a.isNone) w := fun w a n c n' c' => Lib.run_eql_slice_nil w _ _ a n c n' c' Tryz.underlying26
  go_enter Tryz.func22, Tryz.ntmps22
  go_wp2
  go_ret
  exact ⟨rfl, rfl⟩
/-- What slices.SortFunc is to do at a row: leave it. -/
def SortsK (nos : List ByteArray) (g : Nat) : Prop := ∀ (F : Nat → Prop) (A : Option Addr) (c : Nat) (W : World), Sli strR W F nos (.slice A nos.length c) → ErrsLaid W →
  Calls Tryz.prog 56 #[.slice A nos.length c, .func (.func g) #[] #[]] W (fun e w' => e = .returned (.tuple #[]) ∧ Below W.heap.size W w')
set_option maxRecDepth 100000 in
set_option maxHeartbeats 4000000 in
theorem sorts1 (nos : List ByteArray) (g : Nat) (hn : nos.length ≤ 1) : SortsK nos g := by
  intro F A c W _ _
  obtain ⟨n, hN⟩ : ∃ n, nos.length = n := ⟨_, rfl⟩
  rw [hN] at hn ⊢
  have HP := Lib.hid (fun lim fv w => pdqSort1_c A n c lim fv w hn)
  have HL := Lib.hid (fun w => show Calls Tryz.prog 92 #[.int .u64 (n : Int)] w (fun e w' => e = .returned (.int .i64 (Lib.bitLen (n : Int).toNat : Nat)) ∧ w' = w) from Tryz.bits_Len (n : Int) w (by omega) (by omega))
  have wr : IntKind.u64.wrap (n : Int) = n := by simp [IntKind.wrap, IntKind.bits, IntKind.signed]; omega
  clear hN
  go_enter Tryz.func56, Tryz.ntmps56
  go_wp2_with (first | (refine (HL.out _).mono ?_; rintro e w' ⟨rfl, rfl⟩) | (refine (HP.out _ _ _).mono ?_; rintro e w' ⟨rfl, rfl⟩))
  go_end0
  exact ⟨rfl, Below.refl _ _⟩
def EntP (nos : List ByteArray) (w : World) (e : Ending) (w' : World) : Prop := ∃ (A : Option Addr) (c : Nat), e = .returned (.slice A nos.length c) ∧ Sli strR w' (fun q => w.heap.size ≤ q ∧ q < w'.heap.size) nos (.slice A nos.length c) ∧ Below w.heap.size w w'
set_option maxRecDepth 100000 in
set_option maxHeartbeats 8000000 in
theorem entries_c {F : Nat → Prop} (dn : Int) (t : ByteArray) (ls : List (Scene × Value)) (vS : Value) (Al : Option Addr) (nl cl : Nat) (w : World) (h : ScL w F t ls vS) (hln : ls.length ≤ 91) (he : ErrsLaid w) (hs : SortsK (ls.map (·.1.no)) 41) :
    Calls Tryz.prog 38 #[.agg #[.int .i64 dn, .string t, vS, .slice none 0 0, .slice Al nl cl]] w (EntP (ls.map (·.1.no)) w) := by
  obtain ⟨is, his, hs0, hs1, hs2⟩ := info_parts (show (Tryz.prog.info? 9).map (fun i => (i.zero, i.size, i.bytes)) = some (some (.string ⟨#[]⟩), 1, 16) by kernel_rfl)
  obtain ⟨A, c, rfl, hlc, hcm⟩ := h.sli.form
  obtain ⟨L, hL⟩ : ∃ L, ls.length = L := ⟨_, rfl⟩
  have HL := Lib.hid hL
  have HSC := Lib.hid (fun (W : World) (hb : Below w.heap.size w W) => h.below hb)
  have HER := Lib.hid (fun (W : World) (hb : Below w.heap.size w W) => he.below hb (Nat.le_refl _))
  have HFO := Lib.hid (sli_forms h.par)
  have HSO := Lib.hid hs
  rw [hL] at hlc hln HSC ⊢
  have HB0 := Lib.hid ((Below.refl w.heap.size w).alloc (Nat.le_refl _) (.cells #[.int .i64 dn, .string t, .slice A L c, .slice none 0 0, .slice Al nl cl] 59))
  have HY := Lib.hid (str_cells (heap_alloc_new w (.cells #[.int .i64 dn, .string t, .slice A L c, .slice none 0 0, .slice Al nl cl] 59))).1
  have hz1w : (w.alloc (.cells #[.int .i64 dn, .string t, .slice A L c, .slice none 0 0, .slice Al nl cl] 59)).heap.size = w.heap.size + 1 := by simp
  have HC := Lib.hid (fun W => cloneNil_c W)
  clear h he hs hL
  go_enter Tryz.func38, Tryz.ntmps38
  go_upto_region 1 with (fail)
  generalize w.alloc (.cells #[.int .i64 dn, .string t, .slice A L c, .slice none 0 0, .slice Al nl cl] 59) = w1 at *
  have y2 : w1.cell? ⟨w.heap.size, 2, none⟩ = some (.slice A L c) := HY.out 2
  have y3 : w1.cell? ⟨w.heap.size, 3, none⟩ = some (.slice none 0 0) := HY.out 3
  clear HY
  go_wp2_with (refine (HC.out _).mono ?_; rintro e w9 ⟨rfl, hw9⟩; have hw9 := hw9.symm; subst hw9)
  go_loopw [3, 13] (fun v iv wr => ∃ k : Nat, k ≤ L ∧ iv = .int .i64 k ∧ Hid (BO strR 9 w1 ((ls.take k).map (·.1.no)) v [] wr)) (fun _ iv _ => L - (intOf iv).toNat)
  case atStart => exact ⟨0, Nat.zero_le _, rfl, BO.start w1⟩
  case round =>
    clear y2 y3
    obtain ⟨k, hk, rfl, HO⟩ := hrel
    have hzo := HO.out.size
    have hll : ((ls.take k).map (·.1.no)).length = k := by rw [List.length_map, List.length_take, Nat.min_eq_left (by rw [HL.out]; exact hk)]
    have HB := Lib.hid (HB0.out.trans (HO.out.bel.mono (by omega)))
    by_cases hlt : k < L
    · have hkl : k < ls.length := by rw [HL.out]; exact hlt
      have hHr := HSC.out wr HB.out
      obtain ⟨b, off, rfl, hfb, c0, c1, c2, c3, c4⟩ := scAt hHr.sli k hkl
      obtain ⟨A4, n4, cc4, h4⟩ := HFO.out _ (List.getElem_mem hkl)
      have HST := Lib.hid (show (ls.take (k + 1)).map (·.1.no) = (ls.take k).map (·.1.no) ++ [(ls[k]'hkl).1.no] by
        rw [List.take_succ_eq_append_getElem hkl, List.map_append, List.map_cons, List.map_nil])
      rw [h4] at c4
      generalize (ls[k]'hkl).1 = x at *
      obtain ⟨A6, c6, hv6, _, _⟩ := (HO.out.own.sliF (enc := fun x : ByteArray => [.string x]) (hn := fun _ => rfl) (F := fun _ => True) (fun _ _ => trivial)).form
      rw [hll] at hv6
      subst hv6
      generalize (ls.take k).map (·.1.no) = acc at *
      have G5 := Lib.hid (HO.out.alloc (.cells #[.string x.no, .int .i64 x.place, .string x.set, .int .i64 x.time, .slice A4 n4 cc4] 64))
      have hx5 := heap_alloc_new wr (.cells #[.string x.no, .int .i64 x.place, .string x.set, .int .i64 x.time, .slice A4 n4 cc4] 64)
      have hz5 : w1.heap.size ≤ (wr.alloc (.cells #[.string x.no, .int .i64 x.place, .string x.set, .int .i64 x.time, .slice A4 n4 cc4] 64)).heap.size := by simp; omega
      clear h4 hHr hkl HO
      go_upto_region 5 with (fail)
      generalize wr.alloc (.cells #[.string x.no, .int .i64 x.place, .string x.set, .int .i64 x.time, .slice A4 n4 cc4] 64) = w5 at *
      obtain ⟨e0, e1, e2, e3, e4⟩ := sc_cells (str_cells hx5)
      have GA := Lib.hid (G5.out.alloc (.cells #[.string x.no] 9))
      clear hx5 e1 e2 e3 e4
      go_wp2_with (at_builtin; (refine wpList_pushB (R := strR) rfl _ _ _ rfl w1.heap.size w1.heap.size 9 is _ 16 Tryz.underlying26 his hs0 hs1 hs2 rfl (by decide) _ (.slice A6 k c6) acc rfl GA.out.own x.no _ rfl (oneC rfl) w5.heap.size _ _ (heap_alloc_new w5 _) rfl (by unfold maxLen; omega) (by omega) (by simp; omega) ?_); intro g cap8 w8 hown8 hg8 hat8 hlt8)
      go_roundw
      case rel =>
        rw [hll] at hown8
        exact ⟨k + 1, by omega, intNum, Lib.hid (by rw [HST.out]; exact GA.out.more hown8 hg8 rfl hat8)⟩
      case measure => simp [intOf]; omega
    · have hkL : k = L := by omega
      subst hkL
      have hall : ls.take k = ls := List.take_of_length_le (by rw [HL.out]; exact Nat.le_refl _)
      have ho := HO.out.own
      rw [hall] at ho hll
      have hsl := ho.sliF (enc := fun x : ByteArray => [.string x]) (hn := fun _ => rfl) (F := fun q => w.heap.size ≤ q ∧ q < wr.heap.size) (fun g hg => by have := ho.block g hg; exact ⟨by omega, this.2⟩)
      obtain ⟨A6, c6, hv6, _, _⟩ := hsl.form
      subst hv6
      have HS := Lib.hid (HSO.out _ A6 c6 wr hsl (HER.out wr HB.out))
      have HR := Lib.hid hsl
      have HLL := Lib.hid hll
      rw [hll] at HS
      rw [hll]
      clear hsl ho hall hll HO
      go_wp2_with fail
      refine HS.out.mono ?_
      rintro e w9 ⟨rfl, hb9⟩
      have hb9s := hb9.size
      have HR2 := Lib.hid (show EntP (ls.map (·.1.no)) w (.returned (.slice A6 k c6)) w9 from by
        have hr := HR.out
        refine ⟨A6, c6, by rw [HLL.out], ?_, HB.out.trans (hb9.mono HB.out.size)⟩
        exact (hr.below hb9 (fun q hq => hq.2)).more fun q hq => ⟨hq.1, by have := hq.2; omega⟩)
      clear hb9
      go_wp2
      go_ret
      exact HR2.out
end Go.Proofs.YtnnnmbipmfopmaaGreatDoor

/- The generator's lists of lines, walked. -/
namespace Go.Proofs.YtnnnmbipmfopmaaGreatDoor
set_option linter.unusedVariables false
open Go.RowKit Go.Sort

def liL : List ByteArray := [⟨#[97]⟩, ⟨#[98]⟩, ⟨#[99]⟩, ⟨#[97]⟩, ⟨#[]⟩]
def lkL : List ByteArray := [⟨#[97]⟩, ⟨#[98]⟩, ⟨#[120]⟩, ⟨#[121]⟩]
theorem own_nilForm {w : World} {base lo : Nat} {e : TypeId} {l : List ByteArray} {v : Value} (h : Own strR w base lo e l v) : ∃ c, v = .slice none l.length c ∨ ∃ g, v = .slice (some ⟨g, 0, none⟩) l.length c := by
  rcases h.form with ⟨h1, h2⟩ | ⟨g, c, h1, _⟩
  · exact ⟨0, .inl (by rw [h1, h2]; rfl)⟩
  · exact ⟨c, .inr ⟨g, h1⟩⟩
set_option maxRecDepth 100000 in
set_option maxHeartbeats 4000000 in
theorem Lines_s (sb : Nat) (k0 : Int) (m0 : Nat) (w : World) (hs : Str w sb k0) (hk0 : k0 ≤ 4000000000000000000) (hm0 : m0 ≤ 1000) :
    Calls Tryz.prog 5 #[.pointer (some ⟨sb, 0, none⟩), .int .i64 m0] w (Took sb k0 1010 (fun v w' => ∃ l : List ByteArray, Own strR w' w.heap.size w.heap.size 9 l v ∧ l.length ≤ m0 ∧ ∀ x ∈ l, x.size ≤ 10) w) := by
  obtain ⟨i0, hi0, hz0, hz1, hz2⟩ := info_parts (show (Tryz.prog.info? 9).map (fun i => (i.zero, i.size, i.bytes)) = some (some (.string ⟨#[]⟩), 1, 16) by kernel_rfl)
  have G0 := Lib.hid (show GS strR 9 w sb [] (.slice none 0 0) [] k0 w from GS.start hs)
  clear hs
  go_enter Tryz.func5, Tryz.ntmps5
  go_wp2_with fail
  refine (next_c sb k0 ((m0 : Int) + 1) w G0.out.str (by omega) (by omega) (by omega)).mono ?_
  rintro e w2 ⟨v2, n2, rfl, ⟨y2, hy20, hy21, rfl⟩, hn2, hs2, hg2⟩
  obtain ⟨m, rfl⟩ := Int.eq_ofNat_of_zero_le hy20
  have G2 := Lib.hid (G0.out.turn hg2 hs2)
  clear hs2 hg2 G0
  go_wp2
  go_loopw [5, 10] (fun v i wr => ∃ (q : Nat) (l : List ByteArray) (n : Int), q ≤ m ∧ i = .int .i64 q ∧ l.length = q ∧ n ≤ k0 + 2 + q ∧ Hid (∀ x ∈ l, x.size ≤ 10) ∧ Hid (GS strR 9 w sb l v [] n wr)) (fun _ i _ => m - (intOf i).toNat)
  case atStart => exact ⟨0, [], n2, Nat.zero_le _, rfl, rfl, by omega, (fun x hx => by cases hx), G2.out⟩
  case round =>
    clear G2
    obtain ⟨q, l, n, hq, rfl, hlq, hn, HX, HG⟩ := hrel
    have HLQ := Lib.hid hlq
    clear hlq
    by_cases hlt : q < m
    · go_wp2_with fail
      refine (oneL wr liL _ _ _ _ rfl rfl (by decide) (by decide) HG.out.str (by omega)).mono ?_
      rintro e w3 ⟨v3, n3, rfl, ⟨x3, hx3, rfl⟩, hn3, hs3, hg3⟩
      have hxz : x3.size ≤ 10 := oneOf (n := 10) (by decide +kernel) hx3
      have G3 := Lib.hid ((HG.out.alloc (.cells (liL.map Value.string).toArray 9)).turn hg3 hs3)
      have HX3 := Lib.hid (show ∀ x ∈ l ++ [x3], x.size ≤ 10 from fun x hx => by
        rcases List.mem_append.1 hx with hx | hx
        · exact HX.out x hx
        · rw [List.mem_singleton.1 hx]; exact hxz)
      clear hs3 hg3 hx3 hxz HG HX
      have hll := HLQ.out
      go_wp2_with (at_builtin; (refine wpList_pushB (R := strR) rfl _ _ _ rfl w.heap.size w.heap.size 9 i0 _ 16 Tryz.underlying26 hi0 hz0 (by assumption) (by assumption) rfl (by decide) _ u5 l rfl (G3.out.own.alloc _) x3 _ rfl (oneC rfl) w3.heap.size _ _ (heap_alloc_new w3 _) rfl (by simp [maxLen]; omega) (by omega) (by have := G3.out.size; simp; omega) ?_); intro g7 cap7 w7 hown7 hg7 hat7 hlt7)
      have HG7 := Lib.hid (show GS strR 9 w sb (l ++ [x3]) (.slice (some ⟨g7, 0, none⟩) (q + 1) cap7) [] n3 w7 by have h7 := G3.out.push hown7 hg7; rw [hll] at h7; exact h7)
      clear hown7 hg7 hat7 hlt7 G3
      go_roundw
      · exact ⟨q + 1, l ++ [x3], n3, by omega, intNum, by rw [List.length_append, hll]; rfl, by omega, HX3.out, HG7.out⟩
      · simp [intOf]; omega
    · have hll := HLQ.out
      go_wp2
      go_ret
      exact ⟨_, n, rfl, ⟨l, HG.out.own, by omega, HX.out⟩, by omega, HG.out.str, HG.out.gr⟩
/-- slices.Clone of any texts. -/
theorem cloneAny_c {F : Nat → Prop} (l : List ByteArray) (A : Option Addr) (n c : Nat) (w : World) (h : Sli strR w F l (.slice A n c)) (hl : l.length ≤ 1000000000) :
    Calls Tryz.prog 22 #[.slice A n c] w fun e w' => ∃ v, e = .returned v ∧ Own strR w' w.heap.size w.heap.size 9 l v ∧ Below w.heap.size w w' := by
  obtain ⟨A', c', he, _⟩ := h.form
  cases he
  by_cases hp : 0 < l.length
  · exact (cloneS_c l _ w h hp hl).mono fun e w' ⟨v, h1, h2, _, h3⟩ => ⟨v, h1, h2, h3⟩
  · obtain rfl : l = [] := List.length_eq_zero_iff.1 (by omega)
    cases A with
    | none => exact (Tryz.slices_Clone_string_nil 0 c w).mono fun e w' ⟨h1, h2⟩ => ⟨_, h1, Own.nil_, by subst h2; exact Below.refl _ _⟩
    | some a =>
      refine (Tryz.slices_Clone_string_zero a c w).mono ?_
      rintro e w' ⟨v', rfl, hown, _, hb⟩
      exact ⟨v', rfl, ⟨[], hown, by simp, fun k x hx => by simp at hx⟩, hb⟩
set_option maxRecDepth 100000 in
set_option maxHeartbeats 2000000 in
/-- slices.Insert of one text behind all others. -/
theorem insEnd_c (base lo vb i : Nat) (x : ByteArray) (l : List ByteArray) (A : Option Addr) (n c : Nat) (w : World) (h : Own strR w base lo 9 l (.slice A n c)) (hi : i = l.length) (hl : l.length ≤ 1000000000) (hv : w.heap[vb]? = some (.cells #[.string x] 9 (0, 0))) (hbs : base ≤ w.heap.size) :
    Calls Tryz.prog 27 #[.slice A n c, .int .i64 i, .slice (some ⟨vb, 0, none⟩) 1 1] w (fun e w' => ∃ g cap, e = .returned (.slice (some ⟨g, 0, none⟩) (l.length + 1) cap) ∧ Own strR w' base lo 9 (l ++ [x]) (.slice (some ⟨g, 0, none⟩) (l.length + 1) cap) ∧ w.grownBy w' ((Value.slice A n c).ownBlock) ∧ ((Value.slice A n c).ownBlock = some g ∨ g = w.heap.size)) := by
  obtain ⟨i0, hi0, hz0, hz1, hz2⟩ := info_parts (show (Tryz.prog.info? 9).map (fun i => (i.zero, i.size, i.bytes)) = some (some (.string ⟨#[]⟩), 1, 16) by kernel_rfl)
  have hnl : n = l.length := by
    obtain ⟨k, h1 | ⟨g, h1⟩⟩ := own_nilForm h <;> cases h1 <;> rfl
  have hlc : n ≤ c ∧ c ≤ 9223372036854775807 := by
    obtain ⟨A', c', he, h1, h2⟩ := (h.sli (F := fun _ => True) (fun _ _ _ => trivial) (fun _ _ => trivial)).form
    cases he
    exact ⟨h1, h2⟩
  subst hi
  subst hnl
  obtain ⟨L, hL⟩ : ∃ L, l.length = L := ⟨_, rfl⟩
  rw [hL] at h hl hlc ⊢
  have HOW := Lib.hid h
  have HV := Lib.hid hv
  have HLL := Lib.hid hL
  clear h hv hL
  by_cases hcL : c = L
  · subst hcL
    go_enter Tryz.func27, Tryz.ntmps27
    go_upto_region 7 with (fail)
    have hll := HLL.out
    go_wp2_with (at_builtin; (refine wpList_pushB (R := strR) rfl _ _ _ rfl base lo 9 i0 _ 16 Tryz.underlying26 hi0 hz0 (by assumption) (by assumption) rfl (by decide) _ (.slice A c c) l rfl HOW.out x _ rfl (oneC rfl) vb _ _ HV.out rfl (by simp [maxLen]; omega) (by omega) hbs ?_); intro g7 cap7 w7 hown7 hg7 hat7 hlt7)
    go_ret
    rw [hll] at hown7
    exact ⟨g7, cap7, rfl, hown7, hg7, hat7⟩
  · skip
    go_enter Tryz.func27, Tryz.ntmps27
    go_upto_region 7 with (fail)
    have hll := HLL.out
    go_wp2_with (at_builtin; (refine wpList_pushB (R := strR) rfl _ _ _ rfl base lo 9 i0 _ 16 Tryz.underlying26 hi0 hz0 (by assumption) (by assumption) rfl (by decide) _ (.slice A L c) l rfl HOW.out x _ rfl (oneC rfl) vb _ _ HV.out rfl (by simp [maxLen]; omega) (by omega) hbs ?_); intro g7 cap7 w7 hown7 hg7 hat7 hlt7)
    go_ret
    rw [hll] at hown7
    exact ⟨g7, cap7, rfl, hown7, hg7, hat7⟩
set_option maxRecDepth 100000 in
set_option maxHeartbeats 4000000 in
theorem Like_s {F : Nat → Prop} (sb : Nat) (k0 : Int) (l0 : List ByteArray) (A0 : Option Addr) (c0 : Nat) (w : World) (hs : Str w sb k0) (hk0 : k0 ≤ 4000000000000000000) (h0 : Sli strR w F l0 (.slice A0 l0.length c0)) (hl0 : l0.length ≤ 1000) (hx0 : ∀ x ∈ l0, x.size ≤ 10) :
    Calls Tryz.prog 14 #[.pointer (some ⟨sb, 0, none⟩), .slice A0 l0.length c0] w (Took sb k0 20 (fun v w' => ∃ l : List ByteArray, Own strR w' w.heap.size w.heap.size 9 l v ∧ l.length ≤ l0.length + 3 ∧ ∀ x ∈ l, x.size ≤ 10) w) := by
  have HCL := Lib.hid (cloneAny_c l0 A0 l0.length c0 w h0 (by omega))
  have G0 := Lib.hid (show GS strR 9 w sb [] (.slice none 0 0) [] k0 w from GS.start hs)
  have HX0 := Lib.hid hx0
  obtain ⟨L0, hL0⟩ : ∃ L0, l0.length = L0 := ⟨_, rfl⟩
  have HL0 := Lib.hid hL0
  rw [hL0] at hl0 HCL ⊢
  clear hs h0 hx0 hL0
  go_enter Tryz.func14, Tryz.ntmps14
  go_wp2_with fail
  refine HCL.out.mono ?_
  rintro e w1 ⟨v1, rfl, hown1, hb1⟩
  have G1 := Lib.hid (G0.out.takeS hb1 hown1)
  clear hb1 hown1 G0 HCL
  go_wp2_with fail
  refine (next_c sb k0 4 w1 G1.out.str (by omega) (by omega) (by omega)).mono ?_
  rintro e w2 ⟨v2, n2, rfl, ⟨y2, hy20, hy21, rfl⟩, hn2, hs2, hg2⟩
  obtain ⟨m, rfl⟩ := Int.eq_ofNat_of_zero_le hy20
  have hm3 : m ≤ 3 := by omega
  have G2 := Lib.hid (G1.out.turn hg2 hs2)
  clear hs2 hg2 G1
  go_wp2
  go_loopw [5, 11] (fun v i wr => ∃ (q : Nat) (l : List ByteArray) (n : Int), q ≤ m ∧ i = .int .i64 q ∧ n ≤ k0 + 2 + 3 * (q : Int) ∧ Hid (l.length ≤ L0 + q ∧ ∀ x ∈ l, x.size ≤ 10) ∧ Hid (GS strR 9 w sb l v [] n wr)) (fun _ i _ => m - (intOf i).toNat)
  case atStart => exact ⟨0, l0, n2, Nat.zero_le _, rfl, by omega, ⟨by rw [HL0.out]; omega, HX0.out⟩, G2.out⟩
  case round =>
    clear G2 HX0 HL0
    obtain ⟨q, l, n, hq, rfl, hn, HX, HG⟩ := hrel
    obtain ⟨L, hL⟩ : ∃ L, l.length = L := ⟨_, rfl⟩
    have HLL := Lib.hid hL
    have hLq : L ≤ L0 + q := by rw [← hL]; exact HX.out.1
    have hvf : ∃ A c, u5 = .slice A L c ∧ L ≤ c ∧ c ≤ 9223372036854775807 := by
      obtain ⟨A', c', he, h1, h2⟩ := (HG.out.own.sli (F := fun _ => True) (fun _ _ _ => trivial) (fun _ _ => trivial)).form
      rw [hL] at he h1
      exact ⟨A', c', he, h1, h2⟩
    obtain ⟨A, c, rfl, hLc, hcm⟩ := hvf
    clear hL
    by_cases hlt : q < m
    · go_wp2_with fail
      refine (next_c sb n ((L : Int) + 1) wr HG.out.str (by omega) (by omega) (by omega)).mono ?_
      rintro e w4 ⟨v4, n4, rfl, ⟨y4, hy40, hy41, rfl⟩, hn4, hs4, hg4⟩
      obtain ⟨k, rfl⟩ := Int.eq_ofNat_of_zero_le hy40
      have hkL : k ≤ L := by omega
      have G4 := Lib.hid (HG.out.turn hg4 hs4)
      clear hs4 hg4 hy40 hy41 HG
      go_upto_region 5 with (fail)
      go_cut [25] (fun t wx => ∃ (b : Bool) (n : Int), t = .bool b ∧ (b = true → k < L) ∧ n ≤ n4 + 1 ∧ Hid (GS strR 9 w sb l (.slice A L c) [] n wx))
      case first =>
        by_cases hkl : k < L
        · have hkl' : (k : Int) < L := by omega
          go_wp2_with fail
          refine (flip_c sb n4 2 w4 G4.out.str (by omega) (by omega) (by omega)).mono ?_
          rintro e w5 ⟨v5, n5, rfl, ⟨b5, rfl⟩, hn5, hs5, hg5⟩
          have G5 := Lib.hid (G4.out.turn hg5 hs5)
          clear hs5 hg5 G4
          go_wp2_with fail
          go_meet
          exact ⟨b5, n5, rfl, fun _ => hkl, by omega, G5.out⟩
        · have hkl' : ¬ (k : Int) < L := by omega
          go_wp2_with fail
          go_meet
          exact ⟨false, n4, rfl, (fun h => by cases h), by omega, G4.out⟩
      case rest =>
        clear G4
        obtain ⟨b, n5, rfl, hbk, hn5, G⟩ := hcut
        cases b with
        | true =>
          have hkl := hbk rfl
          obtain ⟨g, cap, he, hgb, hgw⟩ := Own.some_ (enc := fun s : ByteArray => [.string s]) (hn := fun _ => rfl) G.out.own (by rw [HLL.out]; omega)
          rw [HLL.out] at he
          cases he
          go_wp2_with fail
          refine (delS_c w.heap.size w.heap.size g L c k l _ G.out.own (by rw [HLL.out]; exact hkl)).mono ?_
          rintro e w7 ⟨rfl, hown7, hg7⟩
          have G7 := Lib.hid (G.out.more hown7 hg7 rfl (.inl rfl))
          have HX7 := Lib.hid (show (l.take k ++ l.drop (k + 1)).length ≤ L0 + q ∧ ∀ x ∈ l.take k ++ l.drop (k + 1), x.size ≤ 10 from ⟨by have := HLL.out; simp; omega, fun x hx => HX.out.2 x (by
            rcases List.mem_append.1 hx with h | h
            · exact List.mem_of_mem_take h
            · exact List.mem_of_mem_drop h)⟩)
          clear hown7 hg7 G HX
          generalize l.take k ++ l.drop (k + 1) = l7 at *
          go_wp2
          go_roundw
          case rel => exact ⟨q + 1, l7, n5, by omega, intNum, by omega, ⟨by have := HX7.out.1; omega, HX7.out.2⟩, G7.out⟩
          case measure => simp [intOf]; omega
        | false =>
          go_wp2_with fail
          refine (oneL _ lkL _ _ _ _ rfl rfl (by decide) (by decide) G.out.str (by omega)).mono ?_
          rintro e w7 ⟨v7, n7, rfl, ⟨x7, hx7, rfl⟩, hn7, hs7, hg7⟩
          have hxz : x7.size ≤ 10 := oneOf (by decide +kernel) hx7
          have G7 := Lib.hid ((G.out.alloc (.cells (lkL.map Value.string).toArray 9)).turn hg7 hs7)
          have G8 := Lib.hid (G7.out.alloc (.cells #[.string x7] 9))
          clear hs7 hg7 hx7 G
          by_cases hkl : k < L
          · obtain ⟨g, cap, he, hgb, hgw⟩ := Own.some_ (enc := fun s : ByteArray => [.string s]) (hn := fun _ => rfl) G7.out.own (by rw [HLL.out]; omega)
            rw [HLL.out] at he
            cases he
            go_wp2_with fail
            refine (insS_c w.heap.size w.heap.size g L c k w7.heap.size x7 l _ G8.out.own (by rw [HLL.out]; exact hkl) (by rw [HLL.out]; omega) (heap_alloc_new w7 _) (by omega)).mono ?_
            rintro e w9 ⟨g9, c9, rfl, hown9, hg9, hat9⟩
            have G9 := Lib.hid (G8.out.more hown9 hg9 rfl hat9)
            have HX7 := Lib.hid (show (l.take k ++ x7 :: l.drop k).length ≤ L0 + q + 1 ∧ ∀ x ∈ l.take k ++ x7 :: l.drop k, x.size ≤ 10 from ⟨by have := HLL.out; simp; omega, fun x hx => by
              rcases List.mem_append.1 hx with h | h
              · exact HX.out.2 x (List.mem_of_mem_take h)
              · rcases List.mem_cons.1 h with rfl | h
                · omega
                · exact HX.out.2 x (List.mem_of_mem_drop h)⟩)
            clear hown9 hg9 hat9 G7 G8 HX
            generalize l.take k ++ x7 :: l.drop k = l7 at *
            go_wp2
            go_roundw
            case rel => exact ⟨q + 1, l7, n7, by omega, intNum, by omega, ⟨by have := HX7.out.1; omega, HX7.out.2⟩, G9.out⟩
            case measure => simp [intOf]; omega
          · go_wp2_with fail
            refine (insEnd_c w.heap.size w.heap.size w7.heap.size k x7 l A L c _ G8.out.own (by rw [HLL.out]; omega) (by rw [HLL.out]; omega) (heap_alloc_new w7 _) G8.out.size).mono ?_
            rintro e w9 ⟨g9, c9, rfl, hown9, hg9, hat9⟩
            have G9 := Lib.hid (G8.out.more hown9 hg9 rfl hat9)
            have HX7 := Lib.hid (show (l ++ [x7]).length ≤ L0 + q + 1 ∧ ∀ x ∈ l ++ [x7], x.size ≤ 10 from ⟨by have := HLL.out; simp; omega, fun x hx => by
              rcases List.mem_append.1 hx with h | h
              · exact HX.out.2 x h
              · rw [List.mem_singleton.1 h]; omega⟩)
            clear hown9 hg9 hat9 G7 G8 HX
            generalize l ++ [x7] = l7 at *
            go_wp2
            go_roundw
            case rel => exact ⟨q + 1, l7, n7, by omega, intNum, by omega, ⟨by have := HX7.out.1; omega, HX7.out.2⟩, G9.out⟩
            case measure => simp [intOf]; omega
    · go_wp2
      go_ret
      exact ⟨_, n, rfl, ⟨l, HG.out.own, by have := HX.out.1; omega, HX.out.2⟩, by omega, HG.out.str, HG.out.gr⟩
end Go.Proofs.YtnnnmbipmfopmaaGreatDoor

/- Lists of edits of one's own. -/
namespace Go.Proofs.YtnnnmbipmfopmaaGreatDoor
set_option linter.unusedVariables false
open Go.RowKit Go.Sort

section
variable {w wx wy : World} {l : List (Edt × Value)} {v : Value} {P Q : List (Nat × Array Value × TypeId)}
end
theorem prX_in {a b : List ByteArray} {p : Nat × Nat} (h : p ∈ prX a b) : p.1 < a.length ∧ p.2 < b.length := by
  unfold prX at h
  split at h
  · have := prs_mem (a := a.drop 0) (b := b.drop 0) h
    simp at this; omega
  · obtain ⟨q, hq, rfl⟩ := List.mem_map.1 h
    have := prs_mem (a := b.drop 0) (b := a.drop 0) hq
    simp at this
    show q.2 < _ ∧ q.1 < _
    omega
theorem prX_up (a b : List ByteArray) : (prX a b).Pairwise fun p q => p.1 < q.1 ∧ p.2 < q.2 := by
  unfold prX
  split
  · exact prs_rise
  · rw [List.pairwise_map]
    exact (prs_rise (a := b.drop 0) (b := a.drop 0)).imp fun h => ⟨h.2, h.1⟩
/-- A part of a row of texts. -/
theorem cutSli {W : World} {G : Nat → Prop} {b : List ByteArray} {ob offb n c i j : Nat} (h : Sli strR W G b (.slice (some ⟨ob, offb, none⟩) n c)) (hij : i ≤ j) (hj : j ≤ b.length) : Sli strR W G (cutL b i j) (.slice (some ⟨ob, offb + i, none⟩) (j - i) (c - i)) := by
  have h1 := h.drop_ i (by omega) (b.length - i) (c - i) rfl rfl
  have h2 := h1.take_ (j - i) (by rw [List.length_drop]; omega)
  rw [show offb + i * strR.n = offb + i by show offb + i * 1 = offb + i; omega] at h2
  exact h2
theorem sliEmp {W : World} {G : Nat → Prop} (A : Option Addr) (c : Nat) (hc : c ≤ 9223372036854775807) : Sli strR W G [] (.slice A 0 c) := ⟨A, c, rfl, Nat.zero_le _, hc, fun h => absurd h (by simp)⟩
end Go.Proofs.YtnnnmbipmfopmaaGreatDoor

/- revise.Differ, walked. -/
namespace Go.Proofs.YtnnnmbipmfopmaaGreatDoor
set_option linter.unusedVariables false
open Go.RowKit Go.Sort

end Go.Proofs.YtnnnmbipmfopmaaGreatDoor

/- R.longest, walked: a table of rows of its own. -/
namespace Go.Proofs.YtnnnmbipmfopmaaGreatDoor
set_option linter.unusedVariables false
open Go.RowKit Go.Sort

def outT (g : Nat → Nat) (m n k : Nat) : Array Value := ((List.range (n + 1)).map fun r => if r < k then .slice (some ⟨g r, 0, none⟩) (m + 1) (m + 1) else .slice none 0 0).toArray
def rowT (T : Nat → Nat → Nat) (m r : Nat) : Array Value := ((List.range (m + 1)).map fun c => .int .i64 (T r c : Nat)).toArray
/-- A table under way: its first k rows are made. -/
structure TbM (w : World) (n m o : Nat) (g : Nat → Nat) (k : Nat) (T : Nat → Nat → Nat) (wx : World) : Prop where
  bel : Below w.heap.size w wx
  out : wx.heap[o]? = some (.cells (outT g m n k) 22 (0, 0))
  row : ∀ r, r < k → wx.heap[g r]? = some (.cells (rowT T m r) 3 (0, 0))
  ob : w.heap.size ≤ o
  gb : ∀ r, r < k → w.heap.size ≤ g r ∧ g r ≠ o
  inj : ∀ r s, r < k → s < k → g r = g s → r = s
section
variable {w wx wy : World} {n m o k : Nat} {g : Nat → Nat} {T : Nat → Nat → Nat}
theorem TbM.below (h : TbM w n m o g k T wx) (hb : Below wx.heap.size wx wy) : TbM w n m o g k T wy :=
  ⟨h.bel.trans (hb.mono h.bel.size), by rw [hb.block o (heap_lt h.out)]; exact h.out, fun r hr => by rw [hb.block _ (heap_lt (h.row r hr))]; exact h.row r hr, h.ob, h.gb, h.inj⟩
theorem TbM.drew (h : TbM w n m o g k T wx) : TbM w n m o g k T wx.drew := ⟨h.bel.drew, h.out, h.row, h.ob, h.gb, h.inj⟩
theorem outT_at {i : Nat} (hi : i ≤ n) : (outT g m n k)[i]? = some (if i < k then .slice (some ⟨g i, 0, none⟩) (m + 1) (m + 1) else .slice none 0 0) := by
  unfold outT
  rw [List.getElem?_toArray, List.getElem?_map, List.getElem?_range (by omega)]
  rfl
theorem rowT_at {i r : Nat} (hi : i ≤ m) : (rowT T m r)[i]? = some (.int .i64 (T r i : Nat)) := by
  unfold rowT
  rw [List.getElem?_toArray, List.getElem?_map, List.getElem?_range (by omega)]
  rfl
theorem TbM.cellO (h : TbM w n m o g k T wx) {i : Nat} (hi : i ≤ n) : wx.cell? ⟨o, i, none⟩ = some (if i < k then .slice (some ⟨g i, 0, none⟩) (m + 1) (m + 1) else .slice none 0 0) ∧ wx.frozen? ⟨o, i, none⟩ = false :=
  ⟨by rw [(str_cells h.out).1 i, outT_at hi], (str_cells h.out).2 i⟩
theorem TbM.cellR (h : TbM w n m o g k T wx) {r c : Nat} (hr : r < k) (hc : c ≤ m) : wx.cell? ⟨g r, c, none⟩ = some (.int .i64 (T r c : Nat)) ∧ wx.frozen? ⟨g r, c, none⟩ = false :=
  ⟨by rw [(str_cells (h.row r hr)).1 c, rowT_at hc], (str_cells (h.row r hr)).2 c⟩
theorem heap_setSelf {w : World} {b i : Nat} {cs : Array Value} {e : TypeId} {u : Value} (h : w.heap[b]? = some (.cells cs e (0, 0))) : (w.setCell ⟨b, i, none⟩ u).heap[b]? = some (.cells (cs.setIfInBounds i u) e (0, 0)) := by
  simp [World.setCell, Array.getElem?_modify, h]
theorem rowT_set {r c : Nat} (v : Nat) (hc : c ≤ m) : (rowT T m r).setIfInBounds c (.int .i64 (v : Nat)) = rowT (fun r' c' => if r' = r ∧ c' = c then v else T r' c') m r := by
  apply Array.ext_getElem?
  intro i
  rw [Array.getElem?_setIfInBounds]
  by_cases hi : i ≤ m
  · by_cases e : c = i
    · subst e; rw [if_pos rfl, if_pos (by unfold rowT; simp; omega), rowT_at hc]; simp
    · rw [if_neg e, rowT_at hi, rowT_at hi]
      have : ¬ i = c := fun h => e h.symm
      simp [this]
  · have e1 : (rowT T m r)[i]? = none := by rw [Array.getElem?_eq_none]; unfold rowT; simp; omega
    have e2 : (rowT (fun r' c' => if r' = r ∧ c' = c then v else T r' c') m r)[i]? = none := by rw [Array.getElem?_eq_none]; unfold rowT; simp; omega
    rw [if_neg (by omega), e1, e2]
theorem rowT_other {r s c : Nat} (v : Nat) (h : s ≠ r) : rowT (fun r' c' => if r' = r ∧ c' = c then v else T r' c') m s = rowT T m s := by
  unfold rowT
  congr 1
  apply List.map_congr_left
  intro x _
  have : ¬ (s = r ∧ x = c) := fun e => h e.1
  simp only [if_neg this]
theorem TbM.set (h : TbM w n m o g k T wx) {r c : Nat} (v : Nat) (hr : r < k) (hc : c ≤ m) : TbM w n m o g k (fun r' c' => if r' = r ∧ c' = c then v else T r' c') (wx.setCell ⟨g r, c, none⟩ (.int .i64 (v : Nat))) := by
  refine ⟨belSet h.bel (h.gb r hr).1 _, ?_, fun s hs => ?_, h.ob, h.gb, h.inj⟩
  · rw [Below.heap_setCell _ _ _ _ (fun e => (h.gb r hr).2 e.symm)]; exact h.out
  · by_cases e : s = r
    · subst e
      rw [heap_setSelf (h.row s hs), rowT_set v hc]
    · rw [Below.heap_setCell _ _ _ _ (fun q => e (h.inj s r hs hr q)), rowT_other v e]
      exact h.row s hs
theorem outT_set {i : Nat} (hk : k ≤ n) : (outT g m n k).setIfInBounds k (.slice (some ⟨i, 0, none⟩) (m + 1) (m + 1)) = outT (fun r => if r = k then i else g r) m n (k + 1) := by
  apply Array.ext_getElem?
  intro j
  rw [Array.getElem?_setIfInBounds]
  by_cases hj : j ≤ n
  · by_cases e : k = j
    · subst e; rw [if_pos rfl, if_pos (by unfold outT; simp; omega), outT_at hk]; simp
    · rw [if_neg e, outT_at hj, outT_at hj]
      by_cases q : j < k
      · rw [if_pos q, if_pos (show j < k + 1 by omega)]
        have : ¬ j = k := by omega
        simp only [if_neg this]
      · rw [if_neg q, if_neg (show ¬ j < k + 1 by omega)]
  · have e1 : (outT g m n k)[j]? = none := by rw [Array.getElem?_eq_none]; unfold outT; simp; omega
    have e2 : (outT (fun r => if r = k then i else g r) m n (k + 1))[j]? = none := by rw [Array.getElem?_eq_none]; unfold outT; simp; omega
    rw [if_neg (by omega), e1, e2]
theorem made_row (m r : Nat) (hT : ∀ c, T r c = 0) : madeCells #[.int .i64 0] (m + 1) = rowT T m r := by
  apply Array.ext
  · rw [size_madeCells]; simp [rowT]
  · intro i h1 h2
    simp [madeCells, Nat.mod_one, rowT, hT]
/-- A row more. -/
theorem TbM.add (h : TbM w n m o g k T wx) (hk : k ≤ n) (hT : ∀ c, T k c = 0) : TbM w n m o (fun r => if r = k then wx.heap.size else g r) (k + 1) T ((wx.alloc (.cells (madeCells #[.int .i64 0] (m + 1)) 3)).setCell ⟨o, k, none⟩ (.slice (some ⟨wx.heap.size, 0, none⟩) (m + 1) (m + 1))) := by
  have ho := heap_lt h.out
  refine ⟨belSet (h.bel.alloc h.bel.size _) h.ob _, ?_, fun r hr => ?_, h.ob, fun r hr => ?_, fun r s hr hs => ?_⟩
  · rw [heap_setSelf (by rw [Below.heap_alloc wx _ o ho]; exact h.out), outT_set hk]
  · by_cases e : r = k
    · subst e
      rw [if_pos rfl, Below.heap_setCell _ _ _ _ (by show wx.heap.size ≠ o; omega), heap_alloc_new, made_row m r hT]
    · rw [if_neg e, Below.heap_setCell _ _ _ _ (h.gb r (by omega)).2, Below.heap_alloc wx _ _ (heap_lt (h.row r (by omega)))]
      exact h.row r (by omega)
  · by_cases e : r = k
    · rw [if_pos e]; exact ⟨h.bel.size, by omega⟩
    · rw [if_neg e]; exact h.gb r (by omega)
  · by_cases e1 : r = k
    · by_cases e2 : s = k
      · intro _; omega
      · rw [if_pos e1, if_neg e2]; intro e; have := heap_lt (h.row s (by omega)); omega
    · by_cases e2 : s = k
      · rw [if_neg e1, if_pos e2]; intro e; have := heap_lt (h.row r (by omega)); omega
      · rw [if_neg e1, if_neg e2]; exact h.inj r s (by omega) (by omega)
theorem TbM.add' (h : TbM w n m o g k T wx) (hk : k ≤ n) (hT : ∀ c, T k c = 0) : TbM w n m o (fun r => if r = k then wx.heap.size else g r) (k + 1) T ((wx.setCell ⟨o, k, none⟩ (.slice (some ⟨wx.heap.size, 0, none⟩) (m + 1) (m + 1))).alloc (.cells (madeCells #[.int .i64 0] (m + 1)) 3)) := by
  have ho := heap_lt h.out
  have hz : (wx.setCell ⟨o, k, none⟩ (.slice (some ⟨wx.heap.size, 0, none⟩) (m + 1) (m + 1))).heap.size = wx.heap.size := by simp [World.setCell]
  have hb1 := belSet h.bel (p := ⟨o, k, none⟩) h.ob (.slice (some ⟨wx.heap.size, 0, none⟩) (m + 1) (m + 1))
  refine ⟨hb1.alloc (by rw [hz]; exact h.bel.size) _, ?_, fun r hr => ?_, h.ob, fun r hr => ?_, fun r s hr hs => ?_⟩
  · rw [Below.heap_alloc _ _ o (by rw [hz]; exact ho), heap_setSelf h.out, outT_set hk]
  · by_cases e : r = k
    · subst e
      rw [if_pos rfl]
      have := heap_alloc_new (wx.setCell ⟨o, r, none⟩ (.slice (some ⟨wx.heap.size, 0, none⟩) (m + 1) (m + 1))) (.cells (madeCells #[.int .i64 0] (m + 1)) 3)
      rw [hz] at this
      rw [this, made_row m r hT]
    · have hl := heap_lt (h.row r (by omega))
      rw [if_neg e, Below.heap_alloc _ _ _ (by rw [hz]; exact hl), Below.heap_setCell _ _ _ _ (h.gb r (by omega)).2]
      exact h.row r (by omega)
  · by_cases e : r = k
    · rw [if_pos e]; exact ⟨h.bel.size, by omega⟩
    · rw [if_neg e]; exact h.gb r (by omega)
  · by_cases e1 : r = k
    · by_cases e2 : s = k
      · intro _; omega
      · rw [if_pos e1, if_neg e2]; intro e; have := heap_lt (h.row s (by omega)); omega
    · by_cases e2 : s = k
      · rw [if_neg e1, if_pos e2]; intro e; have := heap_lt (h.row r (by omega)); omega
      · rw [if_neg e1, if_neg e2]; exact h.inj r s (by omega) (by omega)
theorem made_out (n m : Nat) (g : Nat → Nat) : madeCells #[.slice none 0 0] (n + 1) = outT g m n 0 := by
  apply Array.ext
  · rw [size_madeCells]; simp [outT]
  · intro i h1 h2
    simp [madeCells, Nat.mod_one, outT]
theorem TbM.start (w : World) (n m : Nat) : TbM w n m w.heap.size (fun _ => 0) 0 (fun _ _ => 0) (w.alloc (.cells (madeCells #[.slice none 0 0] (n + 1)) 22)) :=
  ⟨(Below.refl _ w).alloc (Nat.le_refl _) _, by rw [heap_alloc_new, made_out], fun r hr => absurd hr (Nat.not_lt_zero _), Nat.le_refl _, fun r hr => absurd hr (Nat.not_lt_zero _), fun r s hr => absurd hr (Nat.not_lt_zero _)⟩
theorem TbM.eqT (h : TbM w n m o g k T wx) {T' : Nat → Nat → Nat} (he : ∀ r c, r < k → c ≤ m → T r c = T' r c) : TbM w n m o g k T' wx :=
  ⟨h.bel, h.out, fun r hr => by
    rw [h.row r hr]
    congr 2
    unfold rowT
    congr 1
    apply List.map_congr_left
    intro c hc
    rw [he r c hr (by have := List.mem_range.1 hc; omega)], h.ob, h.gb, h.inj⟩
end
/-- What is reckoned of a table: behind row R, and in it from column C on. -/
def TbD (a b : List ByteArray) (R C : Nat) (T : Nat → Nat → Nat) : Prop := ∀ r c, (r = a.length ∨ c = b.length ∨ R < r ∨ (r = R ∧ C ≤ c)) → r ≤ a.length → c ≤ b.length → T r c = lcT a b r c
theorem TbD.start (a b : List ByteArray) : TbD a b a.length 0 (fun _ _ => 0) := by
  intro r c h hr hc
  rcases h with rfl | rfl | h | ⟨rfl, _⟩
  · rw [lcT_a]
  · rw [lcT_b]
  · omega
  · rw [lcT_a]
theorem TbD.row {a b : List ByteArray} {R : Nat} {T : Nat → Nat → Nat} (h : TbD a b (R + 1) 0 T) : TbD a b R b.length T := fun r c hd hr hc => h r c (by omega) hr hc
theorem TbD.step {a b : List ByteArray} {R C v : Nat} {T : Nat → Nat → Nat} (h : TbD a b R (C + 1) T) (hv : v = lcT a b R C) : TbD a b R C (fun r c => if r = R ∧ c = C then v else T r c) := by
  intro r c hd hr hc
  dsimp only
  by_cases e : r = R ∧ c = C
  · rw [if_pos e, hv, e.1, e.2]
  · rw [if_neg e]; exact h r c (by omega) hr hc
end Go.Proofs.YtnnnmbipmfopmaaGreatDoor

/- R.longest: the walk. -/
namespace Go.Proofs.YtnnnmbipmfopmaaGreatDoor
set_option linter.unusedVariables false
open Go.RowKit Go.Sort

def LgP (a b : List ByteArray) (w : World) (e : Ending) (w' : World) : Prop := ∃ (o : Nat) (g : Nat → Nat), e = .returned (.slice (some ⟨o, 0, none⟩) (a.length + 1) (a.length + 1)) ∧ TbM w a.length b.length o g (a.length + 1) (lcT a b) w'
set_option maxRecDepth 100000 in
set_option maxHeartbeats 16000000 in
theorem longest_c {F G : Nat → Prop} (a b : List ByteArray) (va vb : Value) (w : World) (ha : Sli strR w F a va) (hb : Sli strR w G b vb) (hF : ∀ q, F q → q < w.heap.size) (hG : ∀ q, G q → q < w.heap.size) (hn3 : a.length ≤ 3001) (hm3 : b.length ≤ 3001) :
    Calls Tryz.prog 46 #[va, vb] w (LgP a b w) := by
  obtain ⟨A, ca, rfl, hlca, hca⟩ := ha.form
  obtain ⟨B, cb, rfl, hlcb, hcb⟩ := hb.form
  obtain ⟨n, hn⟩ : ∃ n, a.length = n := ⟨_, rfl⟩
  obtain ⟨m, hm⟩ : ∃ m, b.length = m := ⟨_, rfl⟩
  have HA := Lib.hid (fun (W : World) (h : Below w.heap.size w W) => ha.below h hF)
  have HB := Lib.hid (fun (W : World) (h : Below w.heap.size w W) => hb.below h hG)
  have HN := Lib.hid hn
  have HM := Lib.hid hm
  unfold LgP
  rw [hn] at HA hlca hn3 ⊢
  rw [hm] at HB hlcb hm3 ⊢
  have hmk := run_make_row' (P := Tryz.prog) 92 22 (.slice none 0 0) 24 Tryz.underlying92 (by kernel_rfl) rfl .i64 .i64 (n + 1) (by omega) (by omega) w
  rw [show ((n + 1 : Nat) : Int) = (n : Int) + 1 by omega] at hmk
  clear ha hb hn hm
  go_enter Tryz.func46, Tryz.ntmps46
  go_upto_region 2 with (fail)
  have G0 := Lib.hid (TbM.start w n m)
  generalize w.alloc (.cells (madeCells #[.slice none 0 0] (n + 1)) 22) = W0 at *
  clear hmk
  go_wp2
  go_loopw [15] (fun i wr => ∃ (k : Nat) (g : Nat → Nat), k ≤ n + 1 ∧ i = .int .i64 k ∧ Hid (TbM w n m w.heap.size g k (fun _ _ => 0) wr)) (fun i _ => n + 1 - (intOf i).toNat)
  case atStart => exact ⟨0, _, Nat.zero_le _, rfl, G0⟩
  case round =>
    clear G0
    obtain ⟨k, g, hk, rfl, HG⟩ := hrel
    by_cases hlt : k < n + 1
    · have hmk := run_make_row' (P := Tryz.prog) 22 3 (.int .i64 0) 8 Tryz.underlying22 (by kernel_rfl) rfl .i64 .i64 (m + 1) (by omega) (by omega) wr
      rw [show ((m + 1 : Nat) : Int) = (m : Int) + 1 by omega] at hmk
      obtain ⟨c0, f0⟩ := HG.out.cellO (i := k) (by omega)
      rw [if_neg (Nat.lt_irrefl k)] at c0
      have hob := heap_lt HG.out.out
      have G1 := Lib.hid (HG.out.add' (by omega) (fun _ => rfl))
      go_upto_region 6 with (fail)
      clear c0 f0 hob hmk HG
      go_wp2
      go_roundw
      case rel => exact ⟨k + 1, _, by omega, intNum, G1⟩
      case measure => simp [intOf]; omega
    · have hkn : k = n + 1 := by omega
      subst hkn
      have hgl : ∀ r, r ≤ n → g r < wr.heap.size := fun r hr => heap_lt (HG.out.row r (by omega))
      have HGB := Lib.hid (fun r (hr : r ≤ n) => (HG.out.gb r (by omega)).1)
      have T0 := Lib.hid (show TbD a b n 0 (fun _ _ => 0) from by have := TbD.start a b; rw [HN.out] at this; exact this)
      go_upto_region 7 with (fail)
      clear hlt hgl
      go_upto_region 8 with (fail)
      go_loopw [7, 8] (fun s7 _ wr => ∃ (R : Nat) (T : Nat → Nat → Nat), R ≤ n ∧ s7 = .int .i64 ((R : Int) - 1) ∧ Hid (TbD a b R 0 T) ∧ Hid (TbM w n m w.heap.size g (n + 1) T wr)) (fun s7 _ _ => (intOf s7 + 1).toNat)
      case atStart => exact ⟨n, _, Nat.le_refl _, rfl, T0, HG⟩
      case round =>
        clear T0 HG
        obtain ⟨R1, T, hR1, rfl, HT, HG⟩ := hrel
        by_cases h0 : R1 = 0
        · subst h0
          have HF := Lib.hid (HG.out.eqT (T' := lcT a b) (fun r c hr hc => HT.out r c (by omega) (by rw [HN.out]; omega) (by rw [HM.out]; omega)))
          go_wp2
          go_ret
          exact ⟨_, g, rfl, HF.out⟩
        · obtain ⟨R, rfl⟩ : ∃ R, R1 = R + 1 := ⟨R1 - 1, by omega⟩
          have T1 := Lib.hid (show TbD a b R m T from by have := HT.out.row; rw [HM.out] at this; exact this)
          have hge : (0 : Int) ≤ ((R + 1 : Nat) : Int) - 1 := by omega
          have eR : ((R + 1 : Nat) : Int) - 1 = R := by omega
          rw [eR] at hge ⊢
          clear HT eR h0
          go_upto_region 11 with (fail)
          go_loopw [8] (fun s8 wr => ∃ (C : Nat) (T : Nat → Nat → Nat), C ≤ m ∧ s8 = .int .i64 ((C : Int) - 1) ∧ Hid (TbD a b R C T) ∧ Hid (TbM w n m w.heap.size g (n + 1) T wr)) (fun s8 _ => (intOf s8 + 1).toNat)
          case atStart => exact ⟨m, T, Nat.le_refl _, rfl, T1, HG⟩
          case round =>
            clear T1 HG
            obtain ⟨C1, T, hC1, rfl, HT, HG⟩ := hrel
            by_cases h0 : C1 = 0
            · subst h0
              go_wp2
              go_roundw
              case rel => exact ⟨R, T, by omega, rfl, HT, HG⟩
              case measure => simp [intOf]
            · obtain ⟨C, rfl⟩ : ∃ C, C1 = C + 1 := ⟨C1 - 1, by omega⟩
              have hge2 : (0 : Int) ≤ ((C + 1 : Nat) : Int) - 1 := by omega
              have eC : ((C + 1 : Nat) : Int) - 1 = C := by omega
              rw [eC] at hge2 ⊢
              clear eC h0
              obtain ⟨x, hx⟩ : ∃ x, a[R]'(by rw [HN.out]; omega) = x := ⟨_, rfl⟩
              obtain ⟨y, hy⟩ : ∃ y, b[C]'(by rw [HM.out]; omega) = y := ⟨_, rfl⟩
              obtain ⟨oa, offa, rfl, hoa, ez1⟩ := (HA.out wr HG.out.bel).txt R (by rw [HN.out]; omega)
              clear ez1
              obtain ⟨ob, offb, rfl, hob, ez2⟩ := (HB.out wr HG.out.bel).txt C (by rw [HM.out]; omega)
              clear ez2
              have HXA := Lib.hid (fun (W : World) (h : Below w.heap.size w W) => show W.cell? ⟨oa, offa + R, none⟩ = some (.string x) from by
                obtain ⟨_, _, he, _, e⟩ := (HA.out W h).txt R (by rw [HN.out]; omega)
                cases he
                rw [hx] at e
                exact e)
              have HXB := Lib.hid (fun (W : World) (h : Below w.heap.size w W) => show W.cell? ⟨ob, offb + C, none⟩ = some (.string y) from by
                obtain ⟨_, _, he, _, e⟩ := (HB.out W h).txt C (by rw [HM.out]; omega)
                cases he
                rw [hy] at e
                exact e)
              obtain ⟨d1, hd1⟩ : ∃ d, lcT a b (R + 1) (C + 1) = d := ⟨_, rfl⟩
              obtain ⟨d2, hd2⟩ : ∃ d, lcT a b (R + 1) C = d := ⟨_, rfl⟩
              obtain ⟨d3, hd3⟩ : ∃ d, lcT a b R (C + 1) = d := ⟨_, rfl⟩
              have hstep := lcT_max (a := a) (b := b) (r := R) (c := C) (by rw [HN.out]; omega) (by rw [HM.out]; omega)
              rw [hx, hy, hd1, hd2, hd3] at hstep
              have hT1 : T (R + 1) (C + 1) = d1 := by rw [← hd1]; exact HT.out _ _ (by omega) (by rw [HN.out]; omega) (by rw [HM.out]; omega)
              have hT2 : T (R + 1) C = d2 := by rw [← hd2]; exact HT.out _ _ (by omega) (by rw [HN.out]; omega) (by rw [HM.out]; omega)
              have hT3 : T R (C + 1) = d3 := by rw [← hd3]; exact HT.out _ _ (by omega) (by rw [HN.out]; omega) (by rw [HM.out]; omega)
              have HCE := Lib.hid (fun (W : World) (T2 : Nat → Nat → Nat) (h : TbM w n m w.heap.size g (n + 1) T2 W) => show (W.cell? ⟨w.heap.size, R, none⟩ = some (.slice (some ⟨g R, 0, none⟩) (m + 1) (m + 1)) ∧ W.cell? ⟨w.heap.size, R + 1, none⟩ = some (.slice (some ⟨g (R + 1), 0, none⟩) (m + 1) (m + 1))) from by
                obtain ⟨q1, _⟩ := h.cellO (i := R) (by omega)
                obtain ⟨q2, _⟩ := h.cellO (i := R + 1) (by omega)
                rw [if_pos (by omega)] at q1 q2
                exact ⟨q1, q2⟩)
              have hb1 : d1 ≤ 3001 := by have := lcT_le a b (R + 1) (C + 1); rw [HN.out] at this; omega
              have HSE := Lib.hid hstep
              clear hx hy hd1 hd2 hd3 hstep
              obtain ⟨o1, o2⟩ := HCE.out _ _ HG.out
              obtain ⟨r2, fz2⟩ := HG.out.cellR (r := R + 1) (c := C) (by omega) (by omega)
              obtain ⟨r3, fz3⟩ := HG.out.cellR (r := R) (c := C + 1) (by omega) (by omega)
              obtain ⟨r0, f0⟩ := HG.out.cellR (r := R) (c := C) (by omega) (by omega)
              rw [hT2] at r2
              rw [hT3] at r3
              clear fz2 fz3
              obtain ⟨M, hM⟩ : ∃ M, max d2 d3 = M := ⟨_, rfl⟩
              have eM : max (d2 : Int) (d3 : Int) = (M : Int) := by omega
              have G2 := Lib.hid ((HG.out.set (r := R) (c := C) M (by omega) (by omega)).drew)
              have hT1' : (if R + 1 = R ∧ C + 1 = C then M else T (R + 1) (C + 1)) = d1 := by
                have : ¬ (R + 1 = R ∧ C + 1 = C) := by omega
                rw [if_neg this]
                exact hT1
              have hT0' : (if R = R ∧ C = C then M else T R C) = M := by simp
              have HST := Lib.hid (fun (v : Nat) (hv : v = lcT a b R C) => HT.out.step hv)
              have HT0 := Lib.hid hT0'
              have HT1 := Lib.hid hT1'
              rw [hM] at HSE
              clear hT1 hT1' hT0'
              go_upto_region 13 with (fail)
              go_region
              (try rw [eM])
              clear eM o1 o2 r2 r3 r0 f0 hT2 hT3 hM HG
              obtain ⟨W2, hW⟩ : ∃ W2, (wr.setCell ⟨g R, C, none⟩ (.int .i64 (M : Int))).drew = W2 := ⟨_, rfl⟩
              rw [hW] at G2 ⊢
              clear hW
              go_upto_region 14 with (fail)
              go_cut [71] (fun t wx => ∃ q : Bool, t = .bool q ∧ (q = true → x = y) ∧ (q = false → ¬ x = y) ∧ Hid (TbM w n m w.heap.size g (n + 1) (fun r' c' => if r' = R ∧ c' = C then M else T r' c') wx))
              case first =>
                have e1 := HXA.out _ G2.out.bel
                have e2 := HXB.out _ G2.out.bel
                by_cases hxy : x = y
                · subst hxy
                  go_region
                  go_wp2
                  go_meet
                  exact ⟨true, by simp, (fun _ => trivial), (fun h => by cases h), Lib.hid G2.out.drew⟩
                · have hbe : (x.toList == y.toList) = false := by rw [beqS]; simpa using hxy
                  have HXY := Lib.hid hxy
                  clear hxy
                  go_region
                  go_wp2
                  go_meet
                  exact ⟨false, by simp, (fun h => by cases h), (fun _ => HXY.out), Lib.hid G2.out.drew⟩
              case rest =>
                clear G2
                obtain ⟨q, rfl, hq1, hq0, G2⟩ := hcut
                go_upto_if 71 with (fail)
                cases q with
                | false =>
                  rw [if_neg (hq0 rfl)] at HSE
                  have HV := Lib.hid (HST.out M HSE.out.symm)
                  clear HST HSE
                  go_wp2
                  go_roundw
                  case rel => exact ⟨C, _, by omega, rfl, HV, G2⟩
                  case measure => simp [intOf]
                | true =>
                  rw [if_pos (hq1 rfl)] at HSE
                  clear hq0 hq1 HXA HXB
                  go_upto_region 15 with (fail)
                  obtain ⟨N2, hN2⟩ : ∃ N2, max M (d1 + 1) = N2 := ⟨_, rfl⟩
                  have eN : max (M : Int) ((d1 : Int) + 1) = (N2 : Int) := by omega
                  have HV := Lib.hid (HST.out N2 (by rw [HSE.out, hN2]))
                  have G3 := Lib.hid (((G2.out.set (r := R) (c := C) N2 (by omega) (by omega)).drew).eqT (T' := fun r c => if r = R ∧ c = C then N2 else T r c) (fun r c _ _ => by split <;> simp_all))
                  have HRD := Lib.hid (fun (W : World) (h : TbM w n m w.heap.size g (n + 1) (fun r' c' => if r' = R ∧ c' = C then M else T r' c') W) => show W.cell? ⟨w.heap.size, R, none⟩ = some (.slice (some ⟨g R, 0, none⟩) (m + 1) (m + 1)) ∧ W.cell? ⟨w.heap.size, R + 1, none⟩ = some (.slice (some ⟨g (R + 1), 0, none⟩) (m + 1) (m + 1)) ∧ W.cell? ⟨g R, C, none⟩ = some (.int .i64 M) ∧ W.cell? ⟨g (R + 1), C + 1, none⟩ = some (.int .i64 d1) from by
                    obtain ⟨o1, o2⟩ := HCE.out _ _ h
                    obtain ⟨r1, _⟩ := h.cellR (r := R + 1) (c := C + 1) (by omega) (by omega)
                    obtain ⟨r0, f0⟩ := h.cellR (r := R) (c := C) (by omega) (by omega)
                    rw [HT1.out] at r1
                    rw [HT0.out] at r0
                    exact ⟨o1, o2, r0, r1⟩)
                  clear hN2 HST HSE
                  have hw1 : IntKind.i64.wrap ((d1 : Int) + 1) = ((d1 + 1 : Nat) : Int) := by simp [IntKind.wrap, IntKind.bits, IntKind.signed]; omega
                  have HEN := Lib.hid (show max (M : Int) ((d1 : Int) + 1) = (N2 : Int) from by omega)
                  obtain ⟨o1, o2, r0, r1⟩ := HRD.out _ G2.out
                  have f0 := (G2.out.cellR (r := R) (c := C) (by omega) (by omega)).2
                  clear eN hb1 HT0 HT1 HCE HRD G2 hge hge2
                  go_region
                  clear hw1 o1 o2 r0 r1 f0
                  go_wp2
                  go_roundw
                  case rel => exact ⟨C, _, by omega, rfl, HV, Lib.hid (by rw [HEN.out]; exact G3.out)⟩
                  case measure => simp [intOf]
end Go.Proofs.YtnnnmbipmfopmaaGreatDoor

/- The closure of R.PairsOf, walked. -/
namespace Go.Proofs.YtnnnmbipmfopmaaGreatDoor
set_option linter.unusedVariables false
open Go.RowKit Go.Sort

/-- What R.PairsOf has laid: two lists in boxes, two places, the table. -/
structure PoB (w0 : World) (a b : List ByteArray) (A B : Option Addr) (ca cb : Nat) (o : Nat) (g : Nat → Nat) (I X1 J X2 TB i j : Nat) (w : World) : Prop where
  ci : w.cell? ⟨I, 0, none⟩ = some (.int .i64 i)
  cj : w.cell? ⟨J, 0, none⟩ = some (.int .i64 j)
  c1 : w.cell? ⟨X1, 0, none⟩ = some (.slice A a.length ca)
  c2 : w.cell? ⟨X2, 0, none⟩ = some (.slice B b.length cb)
  ct : w.cell? ⟨TB, 0, none⟩ = some (.slice (some ⟨o, 0, none⟩) (a.length + 1) (a.length + 1))
  tab : TbM w0 a.length b.length o g (a.length + 1) (lcT a b) w
  sa : Sli strR w (fun q => q < w.heap.size) a (.slice A a.length ca)
  sb : Sli strR w (fun q => q < w.heap.size) b (.slice B b.length cb)
  lt : I < w.heap.size ∧ J < w.heap.size ∧ X1 < w.heap.size ∧ X2 < w.heap.size ∧ TB < w.heap.size
theorem PoB.below {w0 w w' : World} {a b : List ByteArray} {A B : Option Addr} {ca cb o : Nat} {g : Nat → Nat} {I X1 J X2 TB i j : Nat} (h : PoB w0 a b A B ca cb o g I X1 J X2 TB i j w) (hb : Below w.heap.size w w') : PoB w0 a b A B ca cb o g I X1 J X2 TB i j w' := by
  obtain ⟨l1, l2, l3, l4, l5⟩ := h.lt
  have hz := hb.size
  exact ⟨(hb.cell (p := ⟨I, 0, none⟩) l1).trans h.ci, (hb.cell (p := ⟨J, 0, none⟩) l2).trans h.cj, (hb.cell (p := ⟨X1, 0, none⟩) l3).trans h.c1, (hb.cell (p := ⟨X2, 0, none⟩) l4).trans h.c2, (hb.cell (p := ⟨TB, 0, none⟩) l5).trans h.ct, h.tab.below hb,
    (h.sa.below hb (fun q hq => hq)).more (fun q hq => by omega), (h.sb.below hb (fun q hq => hq)).more (fun q hq => by omega), ⟨by omega, by omega, by omega, by omega, by omega⟩⟩
def NxP (a b : List ByteArray) (i j : Nat) (w : World) (e : Ending) (w' : World) : Prop := ∃ x y : Nat, e = .returned (.tuple #[.int .i64 x, .int .i64 y]) ∧ Below w.heap.size w w' ∧ i ≤ x ∧ x < a.length ∧ j ≤ y ∧ y < b.length ∧ prsT a b i j = (x, y) :: prsT a b (x + 1) (y + 1) ∧ lcT a b i j = lcT a b (x + 1) (y + 1) + 1
set_option maxRecDepth 100000 in
set_option maxHeartbeats 8000000 in
theorem next_po (w0 : World) (a b : List ByteArray) (A B : Option Addr) (ca cb o : Nat) (g : Nat → Nat) (I X1 J X2 TB i j : Nat) (w : World) (h : PoB w0 a b A B ca cb o g I X1 J X2 TB i j w) (hl : 0 < lcT a b i j) (hj : j ≤ b.length) (hn3 : a.length ≤ 3001) (hm3 : b.length ≤ 3001) :
    Calls Tryz.prog 47 #[.pointer (some ⟨I, 0, none⟩), .pointer (some ⟨X1, 0, none⟩), .pointer (some ⟨J, 0, none⟩), .pointer (some ⟨X2, 0, none⟩), .pointer (some ⟨TB, 0, none⟩)] w (NxP a b i j w) := by
  obtain ⟨n, hn⟩ : ∃ n, a.length = n := ⟨_, rfl⟩
  obtain ⟨m, hm⟩ : ∃ m, b.length = m := ⟨_, rfl⟩
  have HN := Lib.hid hn
  have HM := Lib.hid hm
  have HP := Lib.hid (fun (W : World) (hb : Below w.heap.size w W) => h.below hb)
  have hib : i < n := by have := lcT_le a b i j; rw [hn] at this; omega
  have HFIN := Lib.hid (fun (x y : Nat) (W : World) (hb : Below w.heap.size w W) (h1 : i ≤ x) (h2 : x < n) (h3 : j ≤ y) (h4 : y < m) (h5 : prsT a b i j = prsT a b x j ∧ lcT a b i j = lcT a b x j) (h6 : tkn (a[x]'(by rw [HN.out]; exact h2)) (a.drop (x + 1)) (b.drop j) = some (y - j)) => show NxP a b i j w (.returned (.tuple #[.int .i64 x, .int .i64 y])) W from by
    obtain ⟨e1, e2⟩ := prsT_yes (a := a) (b := b) (i := x) (j := j) (k := y - j) (by rw [hn]; exact h2) h6
    rw [show j + (y - j) = y by omega] at e1 e2
    exact ⟨x, y, rfl, hb, h1, by rw [hn]; exact h2, h3, by rw [hm]; exact h4, by rw [h5.1, e1], by rw [h5.2, e2]⟩)
  have hci := h.ci
  have HL := Lib.hid hl
  rw [hn] at hn3
  rw [hm] at hm3 hj
  clear h hl hn hm
  go_enter Tryz.func47, Tryz.ntmps47
  go_upto_region 2 with (fail)
  clear hci
  go_loopw [7, 8] (fun s7 _ wr => ∃ k : Nat, i ≤ k ∧ k < n ∧ s7 = .int .i64 k ∧ Hid (prsT a b i j = prsT a b k j ∧ lcT a b i j = lcT a b k j) ∧ Hid (Below w.heap.size w wr)) (fun s7 _ _ => n - (intOf s7).toNat)
  case atStart => exact ⟨i, Nat.le_refl _, hib, rfl, ⟨rfl, rfl⟩, Below.refl _ _⟩
  case round =>
    obtain ⟨k, hik, hkn, rfl, HK, HB⟩ := hrel
    have hc1 := (HP.out _ HB.out).c1
    have hcj := (HP.out _ HB.out).cj
    rw [HN.out] at hc1
    go_upto_region 5 with (fail)
    clear hc1 hcj
    obtain ⟨x, hx⟩ : ∃ x, a[k]'(by rw [HN.out]; exact hkn) = x := ⟨_, rfl⟩
    have HX := Lib.hid hx
    clear hx
    go_loopw [8] (fun s8 wr => ∃ q : Nat, j ≤ q ∧ q ≤ m ∧ s8 = .int .i64 q ∧ Hid (∀ y (h1 : j ≤ y) (h2 : y < q) (h3 : y < b.length), ¬ (b[y] = x ∧ lcT a b (k + 1) (y + 1) + 1 = lcT a b k j)) ∧ Hid (Below w.heap.size w wr)) (fun s8 _ => m - (intOf s8).toNat)
    case atStart => exact ⟨j, Nat.le_refl _, hj, rfl, (fun y h1 h2 => by omega), HB⟩
    case round =>
      clear HB
      obtain ⟨q, hjq, hqm, rfl, HQ, HB⟩ := hrel
      have hc2 := (HP.out _ HB.out).c2
      rw [HM.out] at hc2
      have hdr : lcs (x :: a.drop (k + 1)) (b.drop j) = lcT a b k j := by
        unfold lcT
        rw [List.drop_eq_getElem_cons (l := a) (i := k) (by rw [HN.out]; exact hkn), HX.out]
      by_cases hlt : q < m
      · have hlt' : (q : Int) < m := by omega
        obtain ⟨y, hy⟩ : ∃ y, b[q]'(by rw [HM.out]; exact hlt) = y := ⟨_, rfl⟩
        have HQN := Lib.hid (fun (hno : ¬ (y = x ∧ lcT a b (k + 1) (q + 1) + 1 = lcT a b k j)) => show ∀ y' (h1 : j ≤ y') (h2 : y' < q + 1) (h3 : y' < b.length), ¬ (b[y'] = x ∧ lcT a b (k + 1) (y' + 1) + 1 = lcT a b k j) from fun y' h1 h2 h3 => by
          by_cases e : y' = q
          · subst e; rw [hy]; exact hno
          · exact HQ.out y' h1 (by omega) h3)
        have HTK := Lib.hid (fun (hyes : y = x ∧ lcT a b (k + 1) (q + 1) + 1 = lcT a b k j) => show tkn (a[k]'(by rw [HN.out]; exact hkn)) (a.drop (k + 1)) (b.drop j) = some (q - j) from by
          rw [HX.out]
          refine tkn_of (by rw [List.length_drop, HM.out]; omega) ?_ ?_ (fun j' hj' => ?_)
          · rw [List.getElem_drop]
            simp only [show j + (q - j) = q by omega]
            rw [hy]; exact hyes.1
          · rw [hdr, List.drop_drop, show j + (q - j + 1) = q + 1 by omega]
            exact hyes.2
          · rw [List.getElem_drop, hdr, List.drop_drop, show j + (j' + 1) = j + j' + 1 by omega]
            exact HQ.out (j + j') (by omega) (by omega) (by rw [HM.out]; omega))
        have HCL := Lib.hid (fun (W : World) (hb : Below w.heap.size w W) => show ∃ oa offa ob offb, A = some ⟨oa, offa, none⟩ ∧ B = some ⟨ob, offb, none⟩ ∧ W.cell? ⟨oa, offa + k, none⟩ = some (.string x) ∧ W.cell? ⟨ob, offb + q, none⟩ = some (.string y) from by
          obtain ⟨oa, offa, e1, _, e2⟩ := (HP.out W hb).sa.txt k (by rw [HN.out]; exact hkn)
          obtain ⟨ob, offb, e3, _, e4⟩ := (HP.out W hb).sb.txt q (by rw [HM.out]; exact hlt)
          rw [HX.out] at e2
          rw [hy] at e4
          exact ⟨oa, offa, ob, offb, e1, e3, e2, e4⟩)
        obtain ⟨oa, offa, ob, offb, eA, eB, _, _⟩ := HCL.out wr HB.out
        subst eA
        subst eB
        have HCX := Lib.hid (fun (W : World) (hb : Below w.heap.size w W) => show W.cell? ⟨oa, offa + k, none⟩ = some (.string x) ∧ W.cell? ⟨ob, offb + q, none⟩ = some (.string y) from by
          obtain ⟨_, _, _, _, e1, e2, e3, e4⟩ := HCL.out W hb
          cases e1
          cases e2
          exact ⟨e3, e4⟩)
        have HTT := Lib.hid (fun (W : World) (hb : Below w.heap.size w W) => show W.cell? ⟨o, k + 1, none⟩ = some (.slice (some ⟨g (k + 1), 0, none⟩) (m + 1) (m + 1)) ∧ W.cell? ⟨o, i, none⟩ = some (.slice (some ⟨g i, 0, none⟩) (m + 1) (m + 1)) ∧ W.cell? ⟨g (k + 1), q + 1, none⟩ = some (.int .i64 (lcT a b (k + 1) (q + 1) : Nat)) ∧ W.cell? ⟨g i, j, none⟩ = some (.int .i64 (lcT a b i j : Nat)) from by
          have ht := (HP.out W hb).tab
          rw [HN.out, HM.out] at ht
          obtain ⟨q1, _⟩ := ht.cellO (i := k + 1) (by omega)
          obtain ⟨q2, _⟩ := ht.cellO (i := i) (by omega)
          rw [if_pos (by omega)] at q1 q2
          exact ⟨q1, q2, (ht.cellR (by omega) (by omega)).1, (ht.cellR (by omega) (by omega)).1⟩)
        have HBX := Lib.hid (fun (W : World) (hb : Below w.heap.size w W) => show W.cell? ⟨X1, 0, none⟩ = some (.slice (some ⟨oa, offa, none⟩) n ca) ∧ W.cell? ⟨X2, 0, none⟩ = some (.slice (some ⟨ob, offb, none⟩) m cb) ∧ W.cell? ⟨TB, 0, none⟩ = some (.slice (some ⟨o, 0, none⟩) (n + 1) (n + 1)) ∧ W.cell? ⟨I, 0, none⟩ = some (.int .i64 i) ∧ W.cell? ⟨J, 0, none⟩ = some (.int .i64 j) from by
          have h := HP.out W hb
          have z1 := h.c1
          have z2 := h.c2
          have z3 := h.ct
          rw [HN.out] at z1 z3
          rw [HM.out] at z2
          exact ⟨z1, z2, z3, h.ci, h.cj⟩)
        have hl1 : lcT a b (k + 1) (q + 1) ≤ 3001 := by have := lcT_le a b (k + 1) (q + 1); rw [HN.out] at this; omega
        have HKE := Lib.hid HK.out.2
        obtain ⟨d1, hd1⟩ : ∃ d, lcT a b (k + 1) (q + 1) = d := ⟨_, rfl⟩
        obtain ⟨d0, hd0⟩ : ∃ d, lcT a b i j = d := ⟨_, rfl⟩
        have hd0' : lcT a b k j = d0 := by rw [← hd0]; exact HKE.out.symm
        rw [hd1] at HTT HTK HQN hl1
        rw [hd0] at HTT
        rw [hd0'] at HTK HQN
        have HD0 := Lib.hid hd0'
        have HRB := Lib.hid (fun (d : Nat) (os : Array Obj) => show Below w.heap.size w (Sort.grow (redrawn wr d) os) from HB.out.trans ((below_regrown wr d os).mono HB.out.size))
        have hc2' := (HBX.out wr HB.out).2.1
        go_upto_region 7 with (fail)
        clear hd1 hd0 hd0' hdr hc2 hc2' HQ
        have s0 := fun d os => (HBX.out _ (HRB.out d os)).1
        have s1 := fun d os => (HBX.out _ (HRB.out d os)).2.1
        have s2 := fun d os => (HBX.out _ (HRB.out d os)).2.2.1
        have s3 := fun d os => (HBX.out _ (HRB.out d os)).2.2.2.1
        have s4 := fun d os => (HBX.out _ (HRB.out d os)).2.2.2.2
        have s5 := fun d os => (HCX.out _ (HRB.out d os)).1
        have s6 := fun d os => (HCX.out _ (HRB.out d os)).2
        have s7 := fun d os => (HTT.out _ (HRB.out d os)).1
        have s8 := fun d os => (HTT.out _ (HRB.out d os)).2.1
        have s9 := fun d os => (HTT.out _ (HRB.out d os)).2.2.1
        have s10 := fun d os => (HTT.out _ (HRB.out d os)).2.2.2
        by_cases hxy : y = x
        · subst hxy
          have hw1 : IntKind.i64.wrap ((d1 : Int) + 1) = (d1 : Int) + 1 := by simp [IntKind.wrap, IntKind.bits, IntKind.signed]; omega
          by_cases hd : d1 + 1 = d0
          · have HTK2 := Lib.hid (HTK.out ⟨rfl, hd⟩)
            have hde : ((d1 : Int) + 1 == (d0 : Int)) = true := by rw [beq_iff_eq]; omega
            clear hd HTK HQN
            refine wp_region_quiet_below (by kernel_rfl) (by kernel_rfl) ?_
            repeat (first | go_big_quiet_step ((fail)) | quiet_step ((fail)))
            refine wpQuiet_nil ?_
            intro wy hwy
            have hby := below_of_regrown hwy
            clear hwy
            have HBy := Lib.hid (HB.out.trans (hby.mono HB.out.size))
            clear s0 s1 s2 s3 s4 s5 s6 s7 s8 s9 s10 hby
            go_wp2
            go_ret2
            exact HFIN.out k q _ HBy.out hik hkn hjq hlt HK.out HTK2.out
          · have HQ2 := Lib.hid (HQN.out (fun h => hd h.2))
            have hde : ((d1 : Int) + 1 == (d0 : Int)) = false := by rw [beq_eq_false_iff_ne]; omega
            clear hd HTK HQN
            refine wp_region_quiet_below (by kernel_rfl) (by kernel_rfl) ?_
            repeat (first | go_big_quiet_step ((fail)) | quiet_step ((fail)))
            refine wpQuiet_nil ?_
            intro wy hwy
            have hby := below_of_regrown hwy
            clear hwy
            have HBy := Lib.hid (HB.out.trans (hby.mono HB.out.size))
            clear s0 s1 s2 s3 s4 s5 s6 s7 s8 s9 s10 hby
            go_wp2
            go_roundw
            case rel => exact ⟨q + 1, by omega, by omega, intNum, Lib.hid (by rw [HD0.out]; exact HQ2.out), HBy⟩
            case measure => simp [intOf]; omega
        · have hbe : (x.toList == y.toList) = false := by rw [beqS]; simpa using (fun e => hxy e.symm)
          have HQ2 := Lib.hid (HQN.out (fun h => hxy h.1))
          clear hxy HTK HQN
          refine wp_region_quiet_below (by kernel_rfl) (by kernel_rfl) ?_
          repeat (first | go_big_quiet_step ((fail)) | quiet_step ((fail)))
          refine wpQuiet_nil ?_
          intro wy hwy
          have hby := below_of_regrown hwy
          clear hwy
          have HBy := Lib.hid (HB.out.trans (hby.mono HB.out.size))
          clear s0 s1 s2 s3 s4 s5 s6 s7 s8 s9 s10 hby
          go_wp2
          go_roundw
          case rel => exact ⟨q + 1, by omega, by omega, intNum, Lib.hid (by rw [HD0.out]; exact HQ2.out), HBy⟩
          case measure => simp [intOf]; omega
      · have hqm' : q = m := by omega
        subst hqm'
        have hno : tkn x (a.drop (k + 1)) (b.drop j) = none := tkn_none (fun j' hj' => by
          rw [List.length_drop, HM.out] at hj'
          rw [List.getElem_drop, hdr, List.drop_drop, show j + (j' + 1) = j + j' + 1 by omega]
          exact HQ.out (j + j') (by omega) (by omega) (by rw [HM.out]; omega))
        obtain ⟨n1, n2⟩ := prsT_no (a := a) (b := b) (i := k) (j := j) (by rw [HN.out]; exact hkn) (by rw [HX.out]; exact hno)
        have HK2 := Lib.hid (show prsT a b i j = prsT a b (k + 1) j ∧ lcT a b i j = lcT a b (k + 1) j from ⟨HK.out.1.trans n1, HK.out.2.trans n2⟩)
        have hk1 : k + 1 < n := by
          have := lcT_le a b (k + 1) j
          have h2 := HL.out
          rw [HK2.out.2] at h2
          rw [HN.out] at this
          omega
        clear hno n1 n2 hdr
        go_wp2
        go_roundw
        case rel => exact ⟨k + 1, by omega, hk1, intNum, HK2, HB⟩
        case measure => simp [intOf]; omega
end Go.Proofs.YtnnnmbipmfopmaaGreatDoor

/- R.PairsOf, walked. -/
namespace Go.Proofs.YtnnnmbipmfopmaaGreatDoor
set_option linter.unusedVariables false
open Go.RowKit Go.Sort

theorem boxes2 (w : World) (v1 v2 : Value) (T : TypeId) : ((w.alloc (.cells #[v1] T)).alloc (.cells #[v2] T)).cell? ⟨w.heap.size, 0, none⟩ = some v1 ∧ ((w.alloc (.cells #[v1] T)).alloc (.cells #[v2] T)).cell? ⟨w.heap.size + 1, 0, none⟩ = some v2 := by
  constructor
  · have y := (str_cells ((Below.heap_alloc (w.alloc (.cells #[v1] T)) (.cells #[v2] T) w.heap.size (by simp)).trans (heap_alloc_new w (.cells #[v1] T)))).1
    exact y 0
  · have z := (str_cells (heap_alloc_new (w.alloc (.cells #[v1] T)) (.cells #[v2] T))).1
    rw [show (w.alloc (.cells #[v1] T)).heap.size = w.heap.size + 1 by simp] at z
    exact z 0
theorem po_cells {W5 W : World} {out : List (Nat × Nat)} {v : Value} {I0 J0 : Nat} {u1 u2 : Value} {T : TypeId} (h : BO prR T W5 out v [(J0, #[u2], 3), (I0, #[u1], 3)] W) : W.cell? ⟨I0, 0, none⟩ = some u1 ∧ W.cell? ⟨J0, 0, none⟩ = some u2 ∧ W.frozen? ⟨I0, 0, none⟩ = false ∧ W.frozen? ⟨J0, 0, none⟩ = false :=
  have a := h.cell (p := (I0, #[u1], 3)) (by simp)
  have b := h.cell (p := (J0, #[u2], 3)) (by simp)
  ⟨a.1 0, b.1 0, a.2 0, b.2 0⟩
def vlen : Value → Nat
  | .slice _ n _ => n
  | _ => 0
set_option maxRecDepth 100000 in
set_option maxHeartbeats 8000000 in
/-- Where the first list is not the greater one. -/
theorem PairsOf1_c {F G : Nat → Prop} (a b : List ByteArray) (va vb : Value) (w : World) (ha : Sli strR w F a va) (hb : Sli strR w G b vb) (hF : ∀ q, F q → q < w.heap.size) (hG : ∀ q, G q → q < w.heap.size) (hn3 : a.length ≤ 3000) (hm3 : b.length ≤ 3000) (hc : cmpL strC a b ≤ 0) :
    Calls Tryz.prog 30 #[va, vb] w (PairP (prsT a b 0 0) w) := by
  obtain ⟨i2, hi2, hz2, hz21, hz22⟩ := info_parts (show (Tryz.prog.info? 74).map (fun i => (i.zero, i.size, i.bytes)) = some (some (.agg #[.int .i64 0, .int .i64 0]), 2, 16) by kernel_rfl)
  obtain ⟨A, ca, rfl, hlca, hca⟩ := ha.form
  obtain ⟨B, cb, rfl, hlcb, hcb⟩ := hb.form
  have HB2 := Lib.hid (((Below.refl w.heap.size w).alloc (Nat.le_refl _) (.cells #[.slice A a.length ca] 26)).alloc (by simp) (.cells #[.slice B b.length cb] 26))
  have HBX := Lib.hid (boxes2 w (.slice A a.length ca) (.slice B b.length cb) 26)
  have hzs : ((w.alloc (.cells #[.slice A a.length ca] 26)).alloc (.cells #[.slice B b.length cb] 26)).heap.size = w.heap.size + 2 := by simp
  have HZS := Lib.hid hzs
  clear hzs
  go_enter Tryz.func30, Tryz.ntmps30
  go_upto_region 1 with (fail)
  generalize (w.alloc (.cells #[.slice A a.length ca] 26)).alloc (.cells #[.slice B b.length cb] 26) = w2 at *
  have SA := Lib.hid ((ha.below HB2.out hF).more (G := fun q => q < w.heap.size) hF)
  have SB := Lib.hid ((hb.below HB2.out hG).more (G := fun q => q < w.heap.size) hG)
  have HCM := cmpSl_c a b _ _ w2 SA.out SB.out
  obtain ⟨z, hz⟩ : ∃ z, cmpL strC a b = z := ⟨_, rfl⟩
  rw [hz] at HCM hc
  have HCM := Lib.hid HCM
  have HLG := longest_c a b _ _ w2 SA.out SB.out (fun q hq => by rw [HZS.out]; omega) (fun q hq => by rw [HZS.out]; omega) (by omega) (by omega)
  unfold LgP at HLG
  have HLG := Lib.hid HLG
  obtain ⟨x1, x2⟩ := HBX.out
  have hc' : ¬ (0 : Int) < z := by omega
  clear ha hb hF hG hz hc
  go_wp2_with fail
  refine HCM.out.mono ?_
  rintro e w3 ⟨rfl, rfl⟩
  clear HCM
  go_wp2_with fail
  refine HLG.out.mono ?_
  rintro e w4 ⟨o, g, rfl, htab⟩
  have HT4 := Lib.hid htab
  clear htab HLG x1 x2
  have HB4 := Lib.hid (HB2.out.trans (HT4.out.bel.mono HB2.out.size))
  have H34 := Lib.hid HT4.out.bel
  have hz34 := HT4.out.bel.size
  have hz3 := HZS.out
  have HQ4 := Lib.hid (show w4.cell? ⟨w.heap.size, 0, none⟩ = some (.slice A a.length ca) ∧ w4.cell? ⟨w.heap.size + 1, 0, none⟩ = some (.slice B b.length cb) from
    ⟨(H34.out.cell (p := ⟨w.heap.size, 0, none⟩) (by dsimp only; omega)).trans HBX.out.1, (H34.out.cell (p := ⟨w.heap.size + 1, 0, none⟩) (by dsimp only; omega)).trans HBX.out.2⟩)
  have hm1 : ∀ W : World, Below (w4.heap.size + 1) (w4.alloc (.cells #[.slice (some ⟨o, 0, none⟩) (a.length + 1) (a.length + 1)] 92)) W → Below w4.heap.size w4 W := fun W hb => ((Below.refl _ w4).alloc (Nat.le_refl _) _).trans (hb.mono (by simp))
  have HPB := Lib.hid (fun (W : World) (i j : Nat) (hb : Below (w4.heap.size + 1) (w4.alloc (.cells #[.slice (some ⟨o, 0, none⟩) (a.length + 1) (a.length + 1)] 92)) W) (hi : W.cell? ⟨w4.heap.size + 1, 0, none⟩ = some (.int .i64 i)) (hj : W.cell? ⟨w4.heap.size + 1 + 1, 0, none⟩ = some (.int .i64 j)) (hz : w4.heap.size + 1 + 1 < W.heap.size) =>
    show PoB w3 a b A B ca cb o g (w4.heap.size + 1) w.heap.size (w4.heap.size + 1 + 1) (w.heap.size + 1) w4.heap.size i j W from
    ⟨hi, hj, ((hm1 W hb).cell (p := ⟨w.heap.size, 0, none⟩) (by dsimp only; omega)).trans HQ4.out.1, ((hm1 W hb).cell (p := ⟨w.heap.size + 1, 0, none⟩) (by dsimp only; omega)).trans HQ4.out.2,
      (hb.cell (p := ⟨w4.heap.size, 0, none⟩) (by dsimp only; omega)).trans ((str_cells (heap_alloc_new w4 _)).1 0), HT4.out.below (hm1 W hb),
      ((SA.out.below H34.out (fun q hq => by omega)).below (hm1 W hb) (fun q hq => by omega)).more (fun q hq => by omega), ((SB.out.below H34.out (fun q hq => by omega)).below (hm1 W hb) (fun q hq => by omega)).more (fun q hq => by omega), ⟨by omega, by omega, by omega, by omega, by omega⟩⟩)
  have hs5 : (w4.alloc (.cells #[.slice (some ⟨o, 0, none⟩) (a.length + 1) (a.length + 1)] 92)).heap.size = w4.heap.size + 1 := by simp
  have HB5 := Lib.hid (HB4.out.alloc HB4.out.size (.cells #[.slice (some ⟨o, 0, none⟩) (a.length + 1) (a.length + 1)] 92))
  have hG := ((BO.start (R := prR) (e := 74) (w4.alloc (.cells #[.slice (some ⟨o, 0, none⟩) (a.length + 1) (a.length + 1)] 92))).new #[.int .i64 0] 3).new #[.int .i64 0] 3
  rw [show ((w4.alloc (.cells #[.slice (some ⟨o, 0, none⟩) (a.length + 1) (a.length + 1)] 92)).alloc (.cells #[.int .i64 0] 3)).heap.size = w4.heap.size + 1 + 1 by simp, hs5] at hG
  have G0 := Lib.hid hG
  have HS5 := Lib.hid hs5
  clear hG hs5 hm1 HQ4 SA SB HT4 HBX
  have hz45 : w3.heap.size ≤ w4.heap.size := hz34
  go_upto_region 12 with (fail)
  generalize w4.alloc (.cells #[.slice (some ⟨o, 0, none⟩) (a.length + 1) (a.length + 1)] 92) = W5 at *
  obtain ⟨Z, hZ⟩ : ∃ Z, w4.heap.size = Z := ⟨_, rfl⟩
  have hZ2 : w.heap.size + 2 ≤ Z := by omega
  have HZW := Lib.hid (show W5.heap.size = Z + 1 by rw [HS5.out, hZ])
  rw [hZ] at G0 HPB ⊢
  generalize ((W5.alloc (.cells #[.int .i64 0] 3)).alloc (.cells #[.int .i64 0] 3)) = W6 at *
  clear HS5 hZ hz34 hz45 H34 HB4
  obtain ⟨I0, hI0⟩ : ∃ I0, Z + 1 = I0 := ⟨_, rfl⟩
  rw [hI0] at G0 HPB HZW ⊢
  obtain ⟨J0, hJ0⟩ : ∃ J0, I0 + 1 = J0 := ⟨_, rfl⟩
  rw [hJ0] at G0 HPB ⊢
  have hne1 : I0 ≠ J0 := by omega
  have hne2 : J0 ≠ I0 := by omega
  have HIJ := Lib.hid (And.intro hI0 hJ0)
  clear hI0 hJ0
  go_loopw [9] (fun s9 wr => ∃ (i j : Nat) (out : List (Nat × Nat)), i ≤ a.length ∧ j ≤ b.length ∧ Hid (out ++ prsT a b i j = prsT a b 0 0) ∧ Hid (BO prR 74 W5 out s9 [(J0, #[.int .i64 j], 3), (I0, #[.int .i64 i], 3)] wr)) (fun s9 _ => 3001 - vlen s9)
  case atStart => exact ⟨0, 0, [], Nat.zero_le _, Nat.zero_le _, List.nil_append _, G0⟩
  case round =>
    clear G0
    obtain ⟨i, j, out, hi, hj, HO, HG⟩ := hrel
    have hol : out.length ≤ 3000 := by
      have h1 := congrArg List.length HO.out
      have h2 : (prsT a b 0 0).length ≤ 3000 := by
        have h3 := lcT_le a b 0 0
        have h4 : (prsT a b 0 0).length = lcT a b 0 0 := prs_len
        omega
      rw [List.length_append] at h1
      omega
    have hvf : ∃ A' c', u9 = .slice A' out.length c' := by
      obtain ⟨A', c', he, h1, h2⟩ := (HG.out.own.sli (F := fun _ => True) (fun _ _ _ => trivial) (fun _ _ => trivial)).form
      exact ⟨A', c', he⟩
    obtain ⟨A9, c9, rfl⟩ := hvf
    have HPO := Lib.hid (fun (W : World) (l2 : List (Nat × Nat)) (v2 : Value) (h : BO prR 74 W5 l2 v2 [(J0, #[.int .i64 j], 3), (I0, #[.int .i64 i], 3)] W) => HPB.out W i j (by rw [← HZW.out]; exact h.bel) ((h.cell (p := (I0, #[.int .i64 i], 3)) (by simp)).1 0) ((h.cell (p := (J0, #[.int .i64 j], 3)) (by simp)).1 0) (h.plt (p := (J0, #[.int .i64 j], 3)) (by simp)))
    have hp := HPO.out _ _ _ HG.out
    have k1 := hp.ci
    have k2 := hp.cj
    have k3 := hp.ct
    obtain ⟨k4, _⟩ := hp.tab.cellO (i := i) hi
    rw [if_pos (by omega)] at k4
    obtain ⟨k5, _⟩ := hp.tab.cellR (r := i) (c := j) (by omega) hj
    obtain ⟨d, hd⟩ : ∃ d, lcT a b i j = d := ⟨_, rfl⟩
    have HD := Lib.hid hd
    rw [hd] at k5
    clear hp hd
    go_upto_region 12 with (fail)
    go_region
    clear k1 k2 k3 k4 k5
    have G1 := Lib.hid HG.out.drew
    clear HG
    obtain ⟨W7, hW7⟩ : ∃ W7, wr.drew = W7 := ⟨_, rfl⟩
    rw [hW7] at G1 ⊢
    clear hW7
    by_cases h0 : d = 0
    · have HV := Lib.hid (show out = prsT a b 0 0 by rw [← HO.out, prsT_zero (by rw [HD.out]; exact h0), List.append_nil])
      subst h0
      go_wp2
      go_ret
      exact ⟨_, rfl, by rw [← HV.out]; exact Own.less (enc := prC) (hn := fun _ => rfl) G1.out.own HB5.out.size, HB5.out.trans (G1.out.bel.mono HB5.out.size)⟩
    · have hd0 : (0 : Int) < d := by omega
      have HNX := next_po w3 a b A B ca cb o g (I0) w.heap.size (J0) (w.heap.size + 1) Z i j W7 (HPO.out _ _ _ G1.out) (by rw [HD.out]; omega) hj (by omega) (by omega)
      unfold NxP at HNX
      have HNX := Lib.hid HNX
      clear h0
      go_wp2_with fail
      refine HNX.out.mono ?_
      rintro e w8 ⟨x, y, rfl, hb8, h1, h2, h3, h4, h5, h6⟩
      have G8 := Lib.hid (G1.out.below hb8)
      have HO2 := Lib.hid (show (out ++ [(x, y)]) ++ prsT a b (x + 1) (y + 1) = prsT a b 0 0 by rw [List.append_assoc, List.singleton_append, ← h5]; exact HO.out)
      have hol2 : out.length + 1 ≤ 3000 := by
        have q1 := congrArg List.length HO2.out
        have q2 : (prsT a b 0 0).length ≤ 3000 := by
          have q3 := lcT_le a b 0 0
          have q4 : (prsT a b 0 0).length = lcT a b 0 0 := prs_len
          omega
        rw [List.length_append, List.length_append] at q1
        simp at q1
        omega
      clear hb8 G1 HNX h5 h6 HO HPO
      have hz8 := G8.out.size
      have hzw := HZW.out
      go_wp2_with (at_builtin; (refine wpList_pushB (R := prR) rfl _ _ _ rfl W5.heap.size W5.heap.size 74 i2 _ 16 Tryz.underlying72 hi2 hz2 (by assumption) (by assumption) rfl (by decide) _ (.slice A9 out.length c9) out rfl (G8.out.own.alloc _) (x, y) (prC (x, y)) rfl (by intro u hu; simp [prC] at hu; rcases hu with rfl | rfl <;> rfl) w8.heap.size _ _ (heap_alloc_new w8 _) rfl (by simp [maxLen]; omega) (by omega) (by simp; omega) ?_); intro g9 cap9 w9 hown9 hg9 hat9 hlt9; have G9 := Lib.hid ((G8.out.alloc (.cells (prC (x, y)).toArray 74)).more hown9 hg9 rfl hat9); obtain ⟨q1, q2, f1, f2⟩ := po_cells G9.out)
      clear hown9 hg9 hat9 G8 hlt9 q1 q2 f1 f2
      have hGA := ((G9.out.less (Q := [(I0, #[.int .i64 i], 3), (J0, #[.int .i64 j], 3)]) (by simp)).set (i := 0) (fun h => h) (.int .i64 ((x : Int) + 1)) (by simpa using hne2))
      have hGB := (hGA.less (Q := [(J0, #[.int .i64 j], 3), (I0, #[.int .i64 ((x : Int) + 1)], 3)]) (by simp)).set (i := 0) (fun h => h) (.int .i64 ((y : Int) + 1)) (by simpa using hne1)
      have GB := Lib.hid hGB
      clear hGA hGB G9
      go_roundw
      case rel => exact ⟨x + 1, y + 1, out ++ [(x, y)], by omega, by omega, HO2, GB⟩
      case measure => show 3001 - (out.length + 1) < 3001 - out.length; omega
set_option maxRecDepth 100000 in
set_option maxHeartbeats 8000000 in
theorem PairsOf_c {F G : Nat → Prop} (a b : List ByteArray) (va vb : Value) (w : World) (ha : Sli strR w F a va) (hb : Sli strR w G b vb) (hF : ∀ q, F q → q < w.heap.size) (hG : ∀ q, G q → q < w.heap.size) (hn3 : a.length ≤ 3000) (hm3 : b.length ≤ 3000) :
    Calls Tryz.prog 30 #[va, vb] w (PairP (prX a b) w) := by
  by_cases hc : cmpL strC a b ≤ 0
  · unfold prX
    rw [if_pos hc]
    exact PairsOf1_c a b va vb w ha hb hF hG hn3 hm3 hc
  have HX := Lib.hid (show prX a b = (prsT b a 0 0).map swp by unfold prX; rw [if_neg hc])
  have hl3 : (prsT b a 0 0).length ≤ 3000 := by rw [prsT_len]; have := lcT_le b a 0 0; omega
  obtain ⟨A, ca, rfl, hlca, hca⟩ := ha.form
  obtain ⟨B, cb, rfl, hlcb, hcb⟩ := hb.form
  have HB2 := Lib.hid (((Below.refl w.heap.size w).alloc (Nat.le_refl _) (.cells #[.slice A a.length ca] 26)).alloc (by simp) (.cells #[.slice B b.length cb] 26))
  have HBX := Lib.hid (boxes2 w (.slice A a.length ca) (.slice B b.length cb) 26)
  have hzs : ((w.alloc (.cells #[.slice A a.length ca] 26)).alloc (.cells #[.slice B b.length cb] 26)).heap.size = w.heap.size + 2 := by simp
  have HZS := Lib.hid hzs
  clear hzs
  go_enter Tryz.func30, Tryz.ntmps30
  go_upto_region 1 with (fail)
  generalize (w.alloc (.cells #[.slice A a.length ca] 26)).alloc (.cells #[.slice B b.length cb] 26) = w5 at *
  have SA := Lib.hid ((ha.below HB2.out hF).more (G := fun q => q < w.heap.size) hF)
  have SB := Lib.hid ((hb.below HB2.out hG).more (G := fun q => q < w.heap.size) hG)
  have HCM := cmpSl_c a b _ _ w5 SA.out SB.out
  have hanti := cmpL_anti strC_anti a b
  have HRC := PairsOf1_c b a _ _ w5 SB.out SA.out (fun q hq => by rw [HZS.out]; omega) (fun q hq => by rw [HZS.out]; omega) hm3 hn3 (by rw [hanti]; omega)
  unfold PairP at HRC
  obtain ⟨z, hz⟩ : ∃ z, cmpL strC a b = z := ⟨_, rfl⟩
  rw [hz] at HCM hc
  have HCM := Lib.hid HCM
  have HRC := Lib.hid HRC
  obtain ⟨x1, x2⟩ := HBX.out
  have hc' : (0 : Int) < z := by omega
  generalize prsT b a 0 0 = l2 at *
  clear ha hb hF hG hz hc hanti
  go_wp2_with fail
  refine HCM.out.mono ?_
  rintro e w3 ⟨rfl, rfl⟩
  clear HCM
  go_wp2_with fail
  refine HRC.out.mono ?_
  rintro e w2 ⟨v, rfl, hown, hb2⟩
  have G2 := Lib.hid (show BO prR 74 w3 l2 v [] w2 from ⟨hb2, hown, fun p hp => by cases hp⟩)
  clear hown hb2 HRC x1 x2 HBX SA SB
  obtain ⟨L, hL⟩ : ∃ L, l2.length = L := ⟨_, rfl⟩
  have HL := Lib.hid hL
  rw [hL] at hl3
  have hvf : ∃ A c, v = .slice A L c := by
    obtain ⟨A', c', he, h1, h2⟩ := (G2.out.own.sli (F := fun _ => True) (fun _ _ _ => trivial) (fun _ _ => trivial)).form
    rw [hL] at he
    exact ⟨A', c', he⟩
  obtain ⟨A, c, rfl⟩ := hvf
  clear hL
  go_wp2
  go_loopw [24] (fun i wr => ∃ k : Nat, k ≤ L ∧ i = .int .i64 k ∧ Hid (BO prR 74 w3 ((l2.take k).map swp ++ l2.drop k) (.slice A L c) [] wr)) (fun i _ => L - (intOf i).toNat)
  case atStart => exact ⟨0, Nat.zero_le _, rfl, Lib.hid (by rw [List.take_zero, List.map_nil, List.nil_append, List.drop_zero]; exact G2.out)⟩
  case round =>
    clear G2
    obtain ⟨k, hk, rfl, HG⟩ := hrel
    by_cases hlt : k < L
    · obtain ⟨g, cap, he, hgb, hgw⟩ := Own.some_ (enc := prC) (hn := fun _ => rfl) HG.out.own (by have := HL.out; simp; omega)
      have hll : ((l2.take k).map swp ++ l2.drop k).length = L := by have := HL.out; simp; omega
      rw [hll] at he
      cases he
      obtain ⟨p, hp⟩ : ∃ p, l2[k]'(by rw [HL.out]; exact hlt) = p := ⟨_, rfl⟩
      have hel : ((l2.take k).map swp ++ l2.drop k)[k]'(by rw [hll]; exact hlt) = p := by
        rw [List.getElem_append_right (by simp; rw [HL.out]; omega)]
        simp [hp, HL.out, Nat.min_eq_left (Nat.le_of_lt hlt)]
      obtain ⟨c0', f0⟩ := Own.cellAt (enc := prC) (hn := fun _ => rfl) HG.out.own k (by rw [hll]; exact hlt) 0 (by decide)
      obtain ⟨c1', f1⟩ := Own.cellAt (enc := prC) (hn := fun _ => rfl) HG.out.own k (by rw [hll]; exact hlt) 1 (by decide)
      rw [hel] at c0' c1'
      have c0 : wr.cell? ⟨g, k * 2, none⟩ = some (.int .i64 p.1) := c0'
      have c1 : wr.cell? ⟨g, k * 2 + 1, none⟩ = some (.int .i64 p.2) := c1'
      have f0 : wr.frozen? ⟨g, k * 2, none⟩ = false := f0
      have hkl : k < ((l2.take k).map swp ++ l2.drop k).length := by rw [hll]; exact hlt
      have G3 := Lib.hid (show BO prR 74 w3 ((l2.take (k + 1)).map swp ++ l2.drop (k + 1)) (.slice (some ⟨g, 0, none⟩) L c) [] (((wr.setCell ⟨g, k * 2, none⟩ (.int .i64 p.2)).setCell ⟨g, k * 2 + 1, none⟩ (.int .i64 p.1)).alloc (.cells #[.int .i64 p.1, .int .i64 p.2] 74)) from by
        have h1 := HG.out.modify (n := 2) (enc := prC) (hn := fun _ => rfl) (fun x => (p.2, x.2)) k 0 (.int .i64 p.2) (fun _ => rfl) (by decide) hkl
        have h2 := h1.modify (n := 2) (enc := prC) (hn := fun _ => rfl) (fun x => (x.1, p.1)) k 1 (.int .i64 p.1) (fun _ => rfl) (by decide) (by rw [List.length_modify]; exact hkl)
        rw [swp_step (by rw [HL.out]; exact hlt) hp] at h2
        exact h2.alloc _)
      clear c0' c1' hel hp HG hkl hll
      go_upto_region 7 with (fail)
      clear c0 c1 f0 f1
      go_wp2
      go_roundw
      case rel => exact ⟨k + 1, by omega, intNum, G3⟩
      case measure => simp [intOf]; omega
    · have HF := Lib.hid HG.out
      rw [List.take_of_length_le (by rw [HL.out]; omega), List.drop_of_length_le (by rw [HL.out]; omega), List.append_nil] at HF
      go_wp2
      go_ret
      exact ⟨_, rfl, by rw [HX.out]; exact Own.less (enc := prC) (hn := fun _ => rfl) HF.out.own HB2.out.size, HB2.out.trans (HF.out.bel.mono HB2.out.size)⟩
end Go.Proofs.YtnnnmbipmfopmaaGreatDoor

