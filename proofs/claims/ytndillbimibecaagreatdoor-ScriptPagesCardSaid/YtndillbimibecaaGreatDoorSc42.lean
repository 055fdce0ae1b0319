/- Texts packed: PaM. -/
import Derived.Test.YtndillbimibecaaGreatDoorSc41
/- paper.Lay, walked. -/
namespace Go.Proofs.YtndillbimibecaaGreatDoor
set_option linter.unusedVariables false
open Go.RowKit Go.Sort

/-- The pages of blocks. -/
def pagesB (l : List Blk) : List (List ByteArray) := (layB l [] [] []).1 ++ (if (layB l [] [] []).2.1 = [] then [] else [(layB l [] [] []).2.1])
def LayP (w : World) (l : List Blk) (e : Ending) (w' : World) : Prop := ∃ (Ps : List (List ByteArray × Value)) (pgV fV sV : Value), e = .returned (.agg #[pgV, fV, sV]) ∧ Ps.map (·.1) = pagesB l ∧ (∃ A n c, fV = .slice A n c) ∧
  MR w ((55, Ps.map (·.2), pgV) :: (3, (layB l [] [] []).2.2.map (fun k : Nat => Value.int .i64 (k : Int)), sV) :: Ps.map (fun q => (9, q.1.map Value.string, q.2))) [] w'
theorem need_le {b : Blk} {r : List Blk} {M : Nat} (hb : b.lines.length ≤ M) (hr : ∀ y ∈ r, y.lines.length ≤ M) : needB b r ≤ 2 * M + 8 := by
  have h1 := leastB_le (b := b)
  unfold needB
  split
  · cases r with
    | nil => dsimp only; omega
    | cons y t =>
      have h2 := leastB_le (b := y)
      have h3 := hr y (by simp)
      dsimp only
      split <;> omega
  · omega
set_option maxRecDepth 100000 in
set_option maxHeartbeats 16000000 in
theorem Lay_c {F : Nat → Prop} (l : List BkT) (A : Option Addr) (c M : Nat) (w : World) (h : BkL w F l (.slice A l.length c)) (hgd : ∀ x ∈ l, GoodB x.1) (hok : ∀ x ∈ l, BkOk x.1) (hM : ∀ x ∈ l, x.1.lines.length ≤ M) (hM1 : M ≤ 1000000) (hLM : l.length * (M + 2) ≤ 1000000000) :
    Calls Tryz.prog 44 #[.slice A l.length c] w (LayP w (l.map (·.1))) := by
  obtain ⟨i0, hi0, hz0, hz1, hz2⟩ := info_parts (show (Tryz.prog.info? 9).map (fun i => (i.zero, i.size, i.bytes)) = some (some (.string ⟨#[]⟩), 1, 16) by kernel_rfl)
  obtain ⟨i2, hj2, hx0, hx1, hx2⟩ := info_parts (show (Tryz.prog.info? 3).map (fun i => (i.zero, i.size, i.bytes)) = some (some (.int .i64 0), 1, 8) by kernel_rfl)
  have HH := Lib.hid h
  have HGD := Lib.hid hgd
  have HOK := Lib.hid hok
  have HM := Lib.hid hM
  obtain ⟨L, hL⟩ : ∃ L, l.length = L := ⟨_, rfl⟩
  have HL := Lib.hid hL
  have m0 := ((((MR.start w).new #[.slice none 0 0, .slice none 0 0, .slice none 0 0] 52).new #[.slice none 0 0, .slice none 0 0, .slice none 0 0] 52).new #[.slice none 0 0] 55).new #[.int .i64 (-1)] 3
  have m1 := (((m0.nil 3).nil 3).nil 55).nil 9
  clear h hgd hok hM m0
  go_enter Tryz.func44, Tryz.ntmps44
  go_upto_region 4 with (fail)
  generalize hW : (((w.alloc (.cells #[.slice none 0 0, .slice none 0 0, .slice none 0 0] 52)).alloc (.cells #[.slice none 0 0, .slice none 0 0, .slice none 0 0] 52)).alloc (.cells #[.slice none 0 0] 55)).alloc (.cells #[.int .i64 (-1)] 3) = W0 at *
  simp only [World.size_alloc] at m1
  obtain ⟨o, ho⟩ : ∃ o, w.heap.size + 1 = o := ⟨_, rfl⟩
  obtain ⟨p, hp⟩ : ∃ p, o + 1 = p := ⟨_, rfl⟩
  obtain ⟨f, hf⟩ : ∃ f, p + 1 = f := ⟨_, rfl⟩
  rw [ho, hp, hf] at m1 ⊢
  have hw0 : w.heap.size < o := by omega
  have G0 := Lib.hid (show LyM w o p f [] [] (.slice none 0 0) (.slice none 0 0) [] (.slice none 0 0) [] (.slice none 0 0) (-1) [(w.heap.size, #[.slice none 0 0, .slice none 0 0, .slice none 0 0], 52)] W0 from
    ⟨m1.less fun q hq => by
      simp only [List.mem_cons, List.not_mem_nil, or_false] at hq ⊢
      rcases hq with h | h | h | h <;> simp [h], rfl, by omega, by omega, by omega, fun x hx => by
      rw [List.mem_singleton] at hx
      subst hx
      exact ⟨by dsimp only; omega, by dsimp only; omega, by dsimp only; omega⟩⟩)
  clear m1 ho hp hf hW
  rw [hL]
  rw [hL] at HH hLM
  clear hL
  have hL9 : L ≤ 1000000000 := Nat.le_trans (Nat.le_mul_of_pos_right L (by omega)) hLM
  go_wp2
  go_loopw [15] (fun iv wr => ∃ (i : Nat) (Ps : List (List ByteArray × Value)) (pg : List ByteArray) (pv pgV : Value) (fs : List Value) (fV : Value) (st : List Nat) (sV : Value) (fi : Int), i ≤ L ∧ iv = .int .i64 i ∧ pg.length ≤ 54 ∧ Ps.length ≤ i * (M + 2) ∧ st.length = i
    ∧ Hid (layB ((l.drop i).map (·.1)) (Ps.map (·.1)) pg st = layB (l.map (·.1)) [] [] []) ∧ Hid (LyM w o p f Ps pg pv pgV fs fV st sV fi [(w.heap.size, #[.slice none 0 0, .slice none 0 0, .slice none 0 0], 52)] wr)) (fun iv _ => L - (intOf iv).toNat)
  case atStart => exact ⟨0, [], [], _, _, [], _, [], _, -1, Nat.zero_le _, rfl, by decide, Nat.zero_le _, rfl, rfl, G0.out⟩
  case round =>
    clear G0
    obtain ⟨i, Ps, pg, pv, pgV, fs, fV, st, sV, fi, hi, rfl, hpl, hPl, hsl, HY, HG⟩ := hrel
    have HSI := Lib.hid hsl
    have hsi : st.length ≤ 1000000000 := by omega
    clear hsl
    by_cases hlt : i < L
    · have hi2 : i < l.length := by rw [HL.out]; exact hlt
      obtain ⟨b, off, e0, hFb, c0, c1, c2, c3, A1, q1, A2, n2, q2, e1, e2⟩ := (HH.out.below HG.out.mr.bel).at_ i hi2
      subst e0
      have hmem := List.getElem_mem hi2
      have hbw : b < wr.heap.size := Nat.lt_of_lt_of_le (HH.out.lt b hFb) HG.out.mr.size
      have HX := Lib.hid (And.intro (HGD.out _ hmem) (And.intro (HOK.out _ hmem) (HM.out _ hmem)))
      have HLN := Lib.hid (HH.out.ln _ hmem)
      have HKD := Lib.hid (HH.out.kd _ hmem)
      have HDR := Lib.hid (show (l.drop i).map (·.1) = (l[i]'hi2).1 :: (l.drop (i + 1)).map (·.1) by rw [List.drop_eq_getElem_cons hi2, List.map_cons])
      have HHD := Lib.hid (fun (W : World) (hb : Below w.heap.size w W) => head_c l (some ⟨b, off, none⟩) c i W (by rw [HL.out]; exact HH.out.below hb) hi2 (by rw [HL.out]; omega) HOK.out)
      rw [e1] at c1 HLN
      rw [e2] at c2 HKD
      rw [HL.out] at HHD
      clear e1 e2 hmem hFb
      have hnd := need_le (b := (l[i]'hi2).1) (r := (l.drop (i + 1)).map (·.1)) (M := M) (HM.out _ (List.getElem_mem hi2)) (fun y hy => by
        obtain ⟨z, hz, rfl⟩ := List.mem_map.1 hy
        exact HM.out z (List.mem_of_mem_drop hz))
      obtain ⟨rest, hrest⟩ : ∃ rest, (l.drop (i + 1)).map (·.1) = rest := ⟨_, rfl⟩
      have HRS := Lib.hid hrest
      rw [hrest] at HDR HHD hnd
      rw [HDR.out] at HY
      clear hrest HDR
      generalize (l[i]'hi2).1 = x at *
      obtain ⟨n, hn⟩ : ∃ n, x.lines.length = n := ⟨_, rfl⟩
      have HN := Lib.hid hn
      rw [hn] at c1 HLN HX
      obtain ⟨nd, hnq⟩ : ∃ nd, needB x rest = nd := ⟨_, rfl⟩
      have HND := Lib.hid hnq
      rw [hnq] at hnd
      simp only [hnq] at HHD
      clear hn hnq
      have hG1 := HG.out.new (bkA x (.slice A1 n q1) (.slice A2 n2 q2)) 131
      unfold bkA at hG1
      clear HG
      go_upto_region 8 with (fail)
      generalize hWB : wr.alloc (.cells #[.int .i64 (x.kind : Int), .slice A1 n q1, .slice A2 n2 q2, .string x.name] 131) = w1 at *
      have hBw : wr.heap.size < w1.heap.size := by rw [← hWB]; simp
      have hww := hG1.mr.size
      generalize wr.heap.size = B at *
      have G1 := Lib.hid hG1
      clear hG1 hWB c0 c1 c2 c3
      have HBC := Lib.hid (fun (W : World) (h : W.heap[B]? = some (.cells #[.int .i64 (x.kind : Int), .slice A1 n q1, .slice A2 n2 q2, .string x.name] 131 (0, 0))) => show W.cell? ⟨B, 0, none⟩ = some (.int .i64 (x.kind : Int)) ∧ W.cell? ⟨B, 1, none⟩ = some (.slice A1 n q1) ∧ W.cell? ⟨B, 2, none⟩ = some (.slice A2 n2 q2) ∧ W.cell? ⟨B, 3, none⟩ = some (.string x.name) from
        ⟨(str_cells h).1 0, (str_cells h).1 1, (str_cells h).1 2, (str_cells h).1 3⟩)
      obtain ⟨b0, b1, b2, b3⟩ := HBC.out w1 (G1.out.mr.prv (B, #[.int .i64 (x.kind : Int), .slice A1 n q1, .slice A2 n2 q2, .string x.name], 131) (by simp)).1
      have HGP := Lib.hid (Gap_c x (.slice A1 n q1) (.slice A2 n2 q2) w1)
      go_wp2_with fail
      refine HGP.out.mono ?_
      rintro e w2 ⟨rfl, hb2⟩
      have G2 := Lib.hid (G1.out.below hb2)
      clear hb2 G1 HGP b0 b1 b2 b3
      go_upto_region 9 with (fail)
      obtain ⟨⟨A3, q3, rfl⟩, ⟨A4, q4, rfl⟩, ⟨A5, q5, rfl⟩, ⟨A6, q6, rfl⟩⟩ := G2.out.form
      obtain ⟨m, hm⟩ : ∃ m, pg.length = m := ⟨_, rfl⟩
      have HMM := Lib.hid hm
      have hpe : pg = [] ↔ m = 0 := by rw [← hm, List.length_eq_zero_iff]
      rw [hm] at G2 hpl
      clear hm
      have hgp : x.gap ≤ 2 := by unfold Blk.gap; split <;> omega
      generalize hgx : x.gap = gp at *
      have HGX := Lib.hid hgx
      clear hgx
      go_cut [35] (fun v wx => v = .bool (decide (0 < m ∧ 54 < m + gp + nd)) ∧ Hid (LyM w o p f Ps pg (.slice A3 m q3) (.slice A4 Ps.length q4) fs (.slice A5 fs.length q5) st (.slice A6 st.length q6) fi [(B, #[.int .i64 (x.kind : Int), .slice A1 n q1, .slice A2 n2 q2, .string x.name], 131), (w.heap.size, #[.slice none 0 0, .slice none 0 0, .slice none 0 0], 52)] wx))
      case first =>
        have cp := G2.out.cells.1.2.2.2.1
        by_cases h0 : m = 0
        · subst h0
          go_region
          go_wp2
          go_meet
          exact ⟨rfl, G2.out.drew⟩
        · have hm0 : 0 < m := by omega
          have hlp : p < w2.heap.size := G2.out.mr.plt (p := (p, #[.slice A3 m q3], 55)) (by simp)
          have s0 : ∀ (d : Nat) (os : Array Obj), (Sort.grow (redrawn w2 d) os).cell? ⟨p, 0, none⟩ = some (.slice A3 m q3) := fun d os => ((below_regrown w2 d os).cell hlp).trans cp
          have hwz := G2.out.mr.size
          have HHE := Lib.hid (fun d os => HHD.out (Sort.grow (redrawn w2 d) os) (G2.out.mr.bel.trans ((below_regrown w2 d os).mono hwz)))
          have hpq : ∀ t : Prop, (0 < m ∧ t) ↔ t := fun t => ⟨fun h => h.2, fun h => ⟨by omega, h⟩⟩
          by_cases ht : 54 < m + gp + nd
          · have ht2 : (54 : Int) < (m : Int) + (gp : Int) + (nd : Int) := by omega
            have HT := Lib.hid (show decide (0 < m ∧ 54 < m + gp + nd) = true from decide_eq_true ⟨by omega, ht⟩)
            refine wp_region_quiet_below (by kernel_rfl) (by kernel_rfl) ?_
            repeat (first | go_big_quiet_step ((go_at_call 84; exact Calls.regrown_of (HHE.out _ _))) | quiet_step ((go_at_call 84; exact Calls.regrown_of (HHE.out _ _))))
            refine wpQuiet_nil ?_
            intro wy hwy
            have hby := below_of_regrown hwy
            clear hwy
            go_wp2
            go_meet
            exact ⟨by rw [HT.out], G2.out.below hby⟩
          · have ht2 : ¬ (54 : Int) < (m : Int) + (gp : Int) + (nd : Int) := by omega
            have HT := Lib.hid (show decide (0 < m ∧ 54 < m + gp + nd) = false from decide_eq_false fun h => ht h.2)
            refine wp_region_quiet_below (by kernel_rfl) (by kernel_rfl) ?_
            repeat (first | go_big_quiet_step ((go_at_call 84; exact Calls.regrown_of (HHE.out _ _))) | quiet_step ((go_at_call 84; exact Calls.regrown_of (HHE.out _ _))))
            refine wpQuiet_nil ?_
            intro wy hwy
            have hby := below_of_regrown hwy
            clear hwy
            go_wp2
            go_meet
            exact ⟨by rw [HT.out], G2.out.below hby⟩
      case rest =>
        clear G2 HHD
        obtain ⟨rfl, G2⟩ := hcut
        have hPz : Ps.length ≤ 1000000000 := by
          have := Nat.mul_le_mul_right (M + 2) (show i ≤ L by omega)
          omega
        go_upto_if 35 with (fail)
        go_cut [] (fun wx => ∃ (P1 : List (List ByteArray × Value)) (pg1 : List ByteArray) (pv1 pgV1 : Value) (fs1 : List Value) (fV1 : Value) (fi1 : Int), P1.map (·.1) = (if topB x rest pg = true ∧ ¬ pg = [] then Ps.map (·.1) ++ [pg] else Ps.map (·.1)) ∧ pg1 = (if topB x rest pg = true then [] else pg) ∧ P1.length ≤ Ps.length + 1 ∧ Hid (LyM w o p f P1 pg1 pv1 pgV1 fs1 fV1 st (.slice A6 st.length q6) fi1 [(B, #[.int .i64 (x.kind : Int), .slice A1 n q1, .slice A2 n2 q2, .string x.name], 131), (w.heap.size, #[.slice none 0 0, .slice none 0 0, .slice none 0 0], 52)] wx))
        case first =>
          have htop : topB x rest pg = true ↔ m = 0 ∨ 54 < m + gp + nd := by
            rw [putB_top, hpe, HMM.out, HGX.out, HND.out]
          by_cases ht : 0 < m ∧ 54 < m + gp + nd
          · have HT := Lib.hid (show decide (0 < m ∧ 54 < m + gp + nd) = true from decide_eq_true ht)
            have hF := flush_c w o p f Ps pg (.slice A3 m q3) (.slice A4 Ps.length q4) fs (.slice A5 fs.length q5) st (.slice A6 st.length q6) fi _ wc G2.out hPz
            have HFL := Lib.hid hF
            have HQ := Lib.hid (show topB x rest pg = true ∧ ¬ pg = [] from ⟨htop.2 (.inr ht.2), fun e => by have := hpe.1 e; omega⟩)
            clear hF htop
            rw [HT.out]
            go_wp2_with fail
            refine HFL.out.mono ?_
            rintro e w3 ⟨rfl, pgV1, fs1, fV1, G3⟩
            go_wp2
            go_meet
            exact ⟨Ps ++ [(pg, .slice A3 m q3)], [], _, pgV1, fs1, fV1, -1, by rw [if_pos HQ.out]; simp, by rw [if_pos HQ.out.1], by simp, Lib.hid G3⟩
          · have HT := Lib.hid (show decide (0 < m ∧ 54 < m + gp + nd) = false from decide_eq_false ht)
            have HQ := Lib.hid (show ¬ (topB x rest pg = true ∧ ¬ pg = []) ∧ (topB x rest pg = true → pg = []) from ⟨fun h => ht (by
              have h1 := htop.1 h.1
              have h2 : ¬ m = 0 := fun e => h.2 (hpe.2 e)
              omega), fun h => hpe.2 (by have h1 := htop.1 h; omega)⟩)
            clear htop
            rw [HT.out]
            go_wp2
            go_meet
            exact ⟨Ps, pg, _, _, fs, _, fi, by rw [if_neg HQ.out.1], by
              by_cases h : topB x rest pg = true
              · rw [if_pos h]; exact HQ.out.2 h
              · rw [if_neg h], by omega, G2.out⟩
        case rest =>
          clear G2
          obtain ⟨P1, pg1, pv1, pgV1, fs1, fV1, fi1, HP1, HG1, hP1, G3⟩ := hcut
          have HP1 := Lib.hid HP1
          have HG1 := Lib.hid HG1
          obtain ⟨⟨A7, q7, rfl⟩, ⟨A8, q8, rfl⟩, ⟨A9, q9, rfl⟩, _⟩ := G3.out.form
          have hp54 : pg1.length ≤ 54 := by
            rw [HG1.out]
            split
            · decide
            · rw [HMM.out]; exact hpl
          have hp0 : pg1 = [] ↔ pg1.length = 0 := List.length_eq_zero_iff.symm
          obtain ⟨m1, hm1⟩ : ∃ m1, pg1.length = m1 := ⟨_, rfl⟩
          have HM1 := Lib.hid hm1
          rw [hm1] at G3 hp54 hp0
          clear hm1
          have cp := G3.out.cells.1.2.2.2.1
          go_upto_if 40 with (fail)
          clear cp
          go_cut [] (fun wx => ∃ fi2 : Int, Hid (LyM w o p f P1 pg1 (.slice A7 m1 q7) (.slice A8 P1.length q8) fs1 (.slice A9 fs1.length q9) st (.slice A6 st.length q6) fi2 [(B, #[.int .i64 (x.kind : Int), .slice A1 n q1, .slice A2 n2 q2, .string x.name], 131), (w.heap.size, #[.slice none 0 0, .slice none 0 0, .slice none 0 0], 52)] wx))
          case first =>
            obtain ⟨⟨_, _, _, cp, cf⟩, _, _, kf⟩ := G3.out.cells
            have kf0 := kf 0
            clear kf
            by_cases h0 : m1 = 0
            · subst h0
              go_wp2
              go_meet
              exact ⟨i, Lib.hid (G3.out.setF i)⟩
            · have h01 : ¬ (m1 : Int) = 0 := by omega
              go_wp2
              go_meet
              exact ⟨fi1, G3⟩
          case rest =>
            clear G3
            obtain ⟨fi2, G3⟩ := hcut
            obtain ⟨d, hd⟩ : ∃ d, (if m1 = 0 then 0 else 1) = d := ⟨_, rfl⟩
            have hmin : min (m1 : Int) 1 = (d : Int) := by rw [← hd]; split <;> omega
            obtain ⟨gz, hgz⟩ : ∃ gz, gp * d = gz := ⟨_, rfl⟩
            have hgz2 : gz ≤ 2 := by
              rw [← hgz, ← hd]
              split <;> omega
            have hmul : (gp : Int) * (d : Int) = (gz : Int) := by rw [← hgz]; push_cast; rfl
            have HGZ := Lib.hid (show gz = if pg1 = [] then 0 else gp by
              rw [← hgz, ← hd]
              by_cases h0 : m1 = 0
              · rw [if_pos h0, if_pos (hp0.2 h0)]; rfl
              · rw [if_neg h0, if_neg (fun h => h0 (hp0.1 h)), Nat.mul_one])
            clear hgz hd
            have cp := G3.out.cells.1.2.2.2.1
            go_wp2
            go_loopw [47] (fun kv wr => ∃ (k : Nat) (cur : List ByteArray) (cv : Value), k ≤ gz ∧ kv = .int .i64 k ∧ Hid (cur = pg1 ++ List.replicate k (⟨#[]⟩ : ByteArray)) ∧ Hid (LyM w o p f P1 cur cv (.slice A8 P1.length q8) fs1 (.slice A9 fs1.length q9) st (.slice A6 st.length q6) fi2 [(B, #[.int .i64 (x.kind : Int), .slice A1 n q1, .slice A2 n2 q2, .string x.name], 131), (w.heap.size, #[.slice none 0 0, .slice none 0 0, .slice none 0 0], 52)] wr)) (fun kv _ => gz - (intOf kv).toNat)
            case atStart => exact ⟨0, pg1, _, Nat.zero_le _, rfl, Lib.hid (List.append_nil _).symm, G3⟩
            case round =>
              clear G3 cp
              obtain ⟨k, cur, cv, hk, rfl, HC, HG⟩ := hrel
              obtain ⟨⟨A3', q3', rfl⟩, _⟩ := HG.out.form
              have cp := HG.out.cells.1.2.2.2.1
              have hcl : cur.length = m1 + k := by rw [HC.out, List.length_append, List.length_replicate, HM1.out]
              have HCL := Lib.hid (show (cur.map Value.string).length = m1 + k by rw [List.length_map]; exact hcl)
              rw [hcl] at HG cp
              clear hcl
              by_cases hlk : k < gz
              · -- DONE
                go_upto_region 16 with (at_builtin; (refine wpList_mrPush rfl _ _ _ rfl 9 i0 _ 16 Tryz.underlying55 hi0 hz0 hz1 hz2 rfl _ (.slice A3' (m1 + k) q3') (cur.map Value.string) (m1 + k) HCL.out rfl (HG.out.mr.alloc (.cells #[.string ⟨#[]⟩] 9)) (.string ⟨#[]⟩) rfl wr.heap.size _ _ (heap_alloc_new wr _) rfl (by unfold maxLen; omega) (by omega) ?_); intro g7 cap7 w7 H7; have d0 := (H7.cell (p := (p, #[.slice A3' (m1 + k) q3'], 55)) (by simp)).1 0; have f0 := (H7.cell (p := (p, #[.slice A3' (m1 + k) q3'], 55)) (by simp)).2 0)
                have G7 := Lib.hid (LyM.page (pg2 := cur ++ [⟨#[]⟩]) (by rw [List.map_append]; exact H7) HG.out.fl HG.out.ne)
                have HC7 := Lib.hid (show cur ++ [⟨#[]⟩] = pg1 ++ List.replicate (k + 1) (⟨#[]⟩ : ByteArray) by rw [HC.out, List.append_assoc, List.replicate_succ'])
                clear H7 d0 f0 HG cp HC HCL
                go_wp2
                go_roundw
                case rel => exact ⟨k + 1, _, _, by omega, intNum, HC7, G7⟩
                case measure => simp [intOf]; omega
              · have hkz : k = gz := by omega
                subst hkz
                have HPA := Lib.hid (show cur = (if topB x rest pg = true then [] else pg ++ List.replicate x.gap (⟨#[]⟩ : ByteArray)) by
                  rw [HC.out, HGZ.out, HG1.out, HGX.out]
                  by_cases ht : topB x rest pg = true
                  · rw [if_pos ht, if_pos ht, if_pos rfl]; rfl
                  · rw [if_neg ht, if_neg ht, if_neg (fun e => ht (putB_top.2 (.inl e)))])
                have HRO := Lib.hid (show RoomOk x 0 (54 - cur.length) ∧ cur.length ≤ 54 by
                  rw [HPA.out]
                  by_cases ht : topB x rest pg = true
                  · rw [if_pos ht]; exact ⟨room_top x, by decide⟩
                  · have htf : topB x rest pg = false := by simpa using ht
                    rw [if_neg ht]
                    refine ⟨room_first htf, ?_⟩
                    have : ¬ (pg = [] ∨ 54 < pg.length + x.gap + needB x rest) := fun h => ht (putB_top.2 h)
                    rw [List.length_append, List.length_replicate]
                    omega)
                have hcl : cur.length = m1 + k := by rw [HC.out, List.length_append, List.length_replicate, HM1.out]
                have HRQ := HRO
                rw [hcl] at HRO
                have hc54 := HRO.out.2
                clear HC HCL HGZ HG1 HM1 hmul hmin
                generalize m1 + k = mk at *
                obtain ⟨⟨co0, _, co2, cp, _⟩, fo, _, _⟩ := HG.out.cells
                have hP1z : P1.length ≤ 1000000000 := by
                  have h1 := Nat.mul_le_mul_right (M + 2) (show i + 1 ≤ L by omega)
                  rw [Nat.add_mul] at h1
                  omega
                have HSL := Lib.hid (show (st.map (fun k : Nat => Value.int .i64 (k : Int))).length = st.length from List.length_map ..)
                obtain ⟨p1, hp1⟩ : ∃ p1, P1.length = p1 := ⟨_, rfl⟩
                have HP1L := Lib.hid hp1
                rw [hp1] at HG co0 hP1z
                clear hp1
                go_upto_region 18 with (at_builtin; (refine wpList_mrPush rfl _ _ _ rfl 3 i2 _ 8 Tryz.underlying22 hj2 hx0 hx1 hx2 rfl _ (.slice A6 st.length q6) (st.map (fun k : Nat => Value.int .i64 (k : Int))) st.length HSL.out rfl ((MR.pick (a := [(9, cur.map .string, .slice A3' mk q3'), (55, P1.map (·.2), .slice A8 p1 q8), (3, fs1, .slice A9 fs1.length q9)]) HG.out.mr).alloc (.cells #[.int .i64 (p1 : Int)] 3)) (.int .i64 (p1 : Int)) rfl wr.heap.size _ _ (heap_alloc_new wr _) rfl (by unfold maxLen; omega) (by omega) ?_); intro g8 cap8 w8 H8; have d2 := (H8.cell (p := (o, #[.slice A8 p1 q8, .slice A9 fs1.length q9, .slice A6 st.length q6], 52)) (by simp)).1 2; have f2 := (H8.cell (p := (o, #[.slice A8 p1 q8, .slice A9 fs1.length q9, .slice A6 st.length q6], 52)) (by simp)).2 2)
                have G8 := Lib.hid (LyM.starts (st2 := st ++ [p1]) (by rw [List.map_append]; exact H8) HG.out.fl HG.out.ne)
                clear H8 d2 f2 HG cp co0 co2 fo
                generalize w8.setCell ⟨o, 2, none⟩ (.slice (some ⟨g8, 0, none⟩) (st.length + 1) cap8) = w9 at *
                generalize Value.slice (some ⟨g8, 0, none⟩) (st.length + 1) cap8 = s9 at *
                obtain ⟨fq, hfq⟩ : ∃ fq, fillB x (n + 1) 0 (P1.map (·.1)) cur = fq := ⟨_, rfl⟩
                have HFQ := Lib.hid hfq
                have hn1 : 1 ≤ n := by rw [← HN.out]; exact HX.out.1.pos
                have hnM : n ≤ M := HX.out.2.2
                obtain ⟨bl, ol, rfl⟩ : ∃ bl ol, A1 = some ⟨bl, ol, none⟩ := by
                  obtain ⟨A, cc, e, _, _, h3⟩ := HLN.out
                  injection e with e1
                  subst e1
                  obtain ⟨b', o', _, e, _⟩ := h3 (by rw [HN.out]; omega)
                  exact ⟨b', o', e⟩
                have hnq : n ≤ q1 ∧ q1 ≤ 9223372036854775807 := by
                  obtain ⟨A, cc, e, h1, h2, _⟩ := HLN.out
                  injection e with _ _ e3
                  subst e3
                  rw [HN.out] at h1
                  exact ⟨h1, h2⟩
                clear hfq
                go_wp2
                go_loopw [10] (fun fv wr => ∃ (f0 : Nat) (P2 : List (List ByteArray × Value)) (g2 : List ByteArray) (v2 pV2 : Value) (fs2 : List Value) (fV2 : Value) (fi3 : Int), fv = .int .i64 f0 ∧ f0 < n ∧ g2.length ≤ 54 ∧ P2.length ≤ p1 + f0 ∧ Hid (RoomOk x f0 (54 - g2.length)) ∧ Hid (∃ mm, n - f0 < mm ∧ fillB x mm f0 (P2.map (·.1)) g2 = fq)
                  ∧ Hid (LyM w o p f P2 g2 v2 pV2 fs2 fV2 (st ++ [p1]) s9 fi3 [(B, #[.int .i64 (x.kind : Int), .slice (some ⟨bl, ol, none⟩) n q1, .slice A2 n2 q2, .string x.name], 131), (w.heap.size, #[.slice none 0 0, .slice none 0 0, .slice none 0 0], 52)] wr)) (fun fv _ => n - (intOf fv).toNat)
                case atStart => exact ⟨0, P1, cur, _, _, fs1, _, fi2, rfl, hn1, HRQ.out.2, by rw [HP1L.out]; omega, Lib.hid HRQ.out.1, Lib.hid ⟨n + 1, by omega, HFQ.out⟩, G8⟩
                case round =>
                  clear G8 HRQ HRO
                  obtain ⟨f0, P2, g2, v2, pV2, fs2, fV2, fi3, rfl, hf0, hg54, hP2, HRM, HFB, HG⟩ := hrel
                  obtain ⟨⟨A10, q10, rfl⟩, ⟨A11, q11, rfl⟩, ⟨A12, q12, rfl⟩, _⟩ := HG.out.form
                  obtain ⟨m2, hm2⟩ : ∃ m2, g2.length = m2 := ⟨_, rfl⟩
                  have HM2 := Lib.hid hm2
                  rw [hm2] at HG hg54 HRM
                  clear hm2
                  obtain ⟨b0, b1, b2, b3⟩ := HBC.out wr (HG.out.mr.prv (B, #[.int .i64 (x.kind : Int), .slice (some ⟨bl, ol, none⟩) n q1, .slice A2 n2 q2, .string x.name], 131) (by simp)).1
                  have cp := HG.out.cells.1.2.2.2.1
                  have hr1 : 1 ≤ f0 + (54 - m2) := by
                    rcases HRM.out with ⟨h0, h | h⟩ | ⟨h0, h⟩
                    · have := least_pos (b := x) (by rw [HN.out]; exact hn1); omega
                    · omega
                    · omega
                  have hst := stop_c (F := F) x (some ⟨bl, ol, none⟩) q1 A2 n2 q2 f0 (54 - m2) wr (by rw [HN.out]; exact hf0) hr1 (by omega) HX.out.2.1.1 (HKD.out.below HG.out.mr.bel HH.out.lt) (fun q hq => Nat.lt_of_lt_of_le (HH.out.lt q hq) HG.out.mr.size) HX.out.2.1.2.1
                  have htt : f0 < stopB x f0 (54 - m2) ∧ stopB x f0 (54 - m2) ≤ n ∧ (stopB x f0 (54 - m2) = n ↔ n - f0 ≤ 54 - m2) := by
                    by_cases hfit : n - f0 ≤ 54 - m2
                    · have := stop_fit (b := x) (f := f0) (room := 54 - m2) (by rw [HN.out]; exact hfit)
                      rw [HN.out] at this
                      omega
                    · have := stopB_brk HX.out.1 HRM.out (by rw [HN.out]; exact hfit)
                      rw [HN.out] at this
                      omega
                  have hr54 : ((54 - m2 : Nat) : Int) = 54 - (m2 : Int) := by omega
                  unfold bkA at hst
                  rw [HN.out, hr54] at hst
                  have HST := Lib.hid hst
                  obtain ⟨tt, htq⟩ : ∃ tt, stopB x f0 (54 - m2) = tt := ⟨_, rfl⟩
                  have HTQ := Lib.hid htq
                  rw [htq] at HST htt
                  clear hst hr1 htq
                  go_wp2_with fail
                  refine HST.out.mono ?_
                  rintro e w3 ⟨rfl, hb3⟩
                  have G3 := Lib.hid (HG.out.below hb3)
                  clear HST hb3 HG cp b0 b1 b2 b3
                  go_upto_region 20 with (fail)
                  obtain ⟨c0, c1, c2, c3⟩ := HBC.out w3 (G3.out.mr.prv (B, #[.int .i64 (x.kind : Int), .slice (some ⟨bl, ol, none⟩) n q1, .slice A2 n2 q2, .string x.name], 131) (by simp)).1
                  have cp := G3.out.cells.1.2.2.2.1
                  obtain ⟨ι, ff, hne, hff, hfS⟩ := family (fun W => W.cell? ⟨p, 0, none⟩ = some (.slice A10 m2 q10) ∧ W.cell? ⟨B, 1, none⟩ = some (.slice (some ⟨bl, ol, none⟩) n q1)) w3 ⟨cp, c1⟩
                  have r0 : ∀ q, (ff q).cell? ⟨p, 0, none⟩ = some (.slice A10 m2 q10) := fun q => (hff q).1
                  have r1 : ∀ q, (ff q).cell? ⟨B, 1, none⟩ = some (.slice (some ⟨bl, ol, none⟩) n q1) := fun q => (hff q).2
                  have hneW : Nonempty World := ⟨w⟩
                  have HFS := Lib.hid hfS
                  have HC3 := Lib.hid (And.intro cp c1)
                  have hbq : ¬ q1 = f0 := by omega
                  have t1 : (f0 : Int) ≤ (tt : Int) := by omega
                  have t2 : (tt : Int) ≤ (q1 : Int) := by omega
                  have hsl := ((HLN.out.below G3.out.mr.bel HH.out.lt).drop_ f0 (by rw [HN.out]; omega) (n - f0) (q1 - f0) (by rw [HN.out]) rfl).take_ (tt - f0) (by rw [List.length_drop, HN.out]; omega)
                  have HSL2 := Lib.hid (show Sli strR w3.drew F ((x.lines.drop f0).take (tt - f0)) (.slice (some ⟨bl, ol + f0, none⟩) (tt - f0) (q1 - f0)) by
                    rw [show f0 * (Rep.n strR) = f0 from Nat.mul_one f0] at hsl
                    exact hsl.drew)
                  clear hff hfS hsl cp c0 c1 c2 c3
                  refine wp_region_segs2 [5, 6] [] [] [([1, 3, 4], [0, 2], 5), ([], [], 6), ([], [], 7)] (by kernel_rfl) (by kernel_rfl) (fun _ _ _ dd _ h => by cases dd <;> exact h) (fun W => ∃ p : ι, W = ff p) (HFS.out _ HC3.out) ?_
                  refine wpSegs2_step (by simp only [pick, List.getElem?_cons_succ, List.getElem?_cons_zero]; rfl) (by simp only [pick, List.getElem?_cons_succ, List.getElem?_cons_zero]; rfl) rfl (fun K0 hK0 L0 hL0 => ?_)
                  repeat (first | go_big_quiet_step (fail) | quiet_step (fail))
                  refine wpQuiet_nil (hL0 _ ?_)
                  repeat (first | go_big_quiet_step (fail) | quiet_step (fail))
                  refine wpQuiet_nil ?_
                  go_simp
                  refine hK0 (fun W => ∃ p : ι, W = ff p) _ _ (fun _ h => h) (HFS.out _ HC3.out) ?_
                  refine wpSegs2_step (by simp only [pick, List.getElem?_cons_succ, List.getElem?_cons_zero]; rfl) (by simp only [pick, List.getElem?_cons_succ, List.getElem?_cons_zero]; rfl) rfl (fun K1 hK1 L1 hL1 => ?_)
                  repeat (first | go_big_quiet_step (fail) | quiet_step (fail))
                  refine wpQuiet_nil (hL1 _ ?_)
                  repeat (first | go_big_quiet_step (fail) | quiet_step (fail))
                  refine wpQuiet_nil ?_
                  refine oper_mrApp _ _ _ rfl 9 i0 _ 16 Tryz.underlying55 hi0 hz0 hz1 hz2 rfl w3.drew (.slice A10 m2 q10) g2 rfl G3.out.drew.mr ((x.lines.drop f0).take (tt - f0)) (some ⟨bl, ol + f0, none⟩) (tt - f0) (q1 - f0) rfl HSL2.out (by rw [List.length_take, List.length_drop, HN.out]; omega) (by rw [HM2.out]; unfold maxLen; omega) (by rw [HM2.out]; omega) ?_
                  intro v4 w4 H4
                  obtain ⟨⟨A13, q13, hv4⟩, _⟩ := (LyM.page H4 G3.out.fl G3.out.ne).form
                  obtain ⟨m5, hm5⟩ : ∃ m5, (g2 ++ (x.lines.drop f0).take (tt - f0)).length = m5 := ⟨_, rfl⟩
                  have HM5 := Lib.hid hm5
                  rw [hm5] at hv4
                  subst hv4
                  clear hm5
                  have k4 := H4.cell (p := (p, #[.slice A10 m2 q10], 55)) (by simp)
                  have d4 : w4.cell? ⟨p, 0, none⟩ = some (.slice A10 m2 q10) := k4.1 0
                  have f4 : w4.frozen? ⟨p, 0, none⟩ = false := k4.2 0
                  have d5 : w4.cell? ⟨B, 1, none⟩ = some (.slice (some ⟨bl, ol, none⟩) n q1) := (H4.cell (p := (B, #[.int .i64 (x.kind : Int), .slice (some ⟨bl, ol, none⟩) n q1, .slice A2 n2 q2, .string x.name], 131)) (by simp)).1 1
                  refine hK1 (fun W => ∃ p : ι, W = ff p) _ _ (fun _ h => h) (HFS.out _ ⟨d4, d5⟩) ?_
                  have G5 := Lib.hid (LyM.page H4 G3.out.fl G3.out.ne)
                  clear H4 G3 k4 HC3
                  refine wpSegs2_last (by simp only [pick, List.getElem?_cons_succ, List.getElem?_cons_zero]; rfl) (by simp only [pick, List.getElem?_cons_succ, List.getElem?_cons_zero]; rfl) rfl (by rfl) (fun K2 hK2 L2 hL2 => ?_)
                  repeat (first | go_big_quiet_step (fail) | quiet_step (fail))
                  refine wpQuiet_nil (hL2 _ ?_)
                  repeat (first | go_big_quiet_step (fail) | quiet_step (fail))
                  refine wpQuiet_nil ?_
                  go_simp
                  refine hK2 _ _ (wpSegs2_end ?_)
                  generalize w4.setCell ⟨p, 0, none⟩ (.slice A13 m5 q13) = w5 at *
                  clear d4 f4 d5 r0 r1 HFS HSL2
                  obtain ⟨b0, b1, b2, b3⟩ := HBC.out w5 (G5.out.mr.prv (B, #[.int .i64 (x.kind : Int), .slice (some ⟨bl, ol, none⟩) n q1, .slice A2 n2 q2, .string x.name], 131) (by simp)).1
                  by_cases hfit : n - f0 ≤ 54 - m2
                  · obtain rfl : tt = n := htt.2.2.2 hfit
                    have hP2z : P2.length ≤ (i + 1) * (M + 2) := by
                      have h1 := HP1L.out
                      rw [Nat.add_mul, Nat.one_mul]
                      omega
                    have hfin : layB (x :: rest) (Ps.map (·.1)) pg st = layB rest (P2.map (·.1)) (g2 ++ (x.lines.drop f0).take (tt - f0)) (st ++ [p1]) := by
                      obtain ⟨mm, h1, h2⟩ := HFB.out
                      obtain ⟨m', rfl⟩ : ∃ m', mm = m' + 1 := ⟨mm - 1, by omega⟩
                      rw [fillB_end (by rw [HN.out, HM2.out]; exact hfit)] at h2
                      have h3 : (x.lines.drop f0).take (tt - f0) = x.lines.drop f0 := List.take_of_length_le (by rw [List.length_drop, HN.out]; omega)
                      show layB rest (fillB x (x.lines.length + 1) 0 (if topB x rest pg = true ∧ ¬ pg = [] then Ps.map (·.1) ++ [pg] else Ps.map (·.1)) (if topB x rest pg = true then [] else pg ++ List.replicate x.gap ⟨#[]⟩)).1 _ (st ++ [(if topB x rest pg = true ∧ ¬ pg = [] then Ps.map (·.1) ++ [pg] else Ps.map (·.1)).length]) = _
                      rw [← HP1.out, ← HPA.out, HN.out, HFQ.out, ← h2, h3, List.length_map, HP1L.out]
                    have HFI := Lib.hid (hfin.symm.trans HY.out)
                    rw [← HRS.out] at HFI
                    have hg5l : (g2 ++ (x.lines.drop f0).take (tt - f0)).length ≤ 54 := by
                      rw [List.length_append, List.length_take, List.length_drop, HM2.out]; omega
                    have hs5 : (st ++ [p1]).length = i + 1 := by rw [List.length_append, HSI.out]; rfl
                    have G6 := Lib.hid (G5.out.less (Y := [(w.heap.size, #[.slice none 0 0, .slice none 0 0, .slice none 0 0], 52)]) (by simp))
                    clear G5 hfin HFB
                    go_wp2
                    go_roundw
                    case rel => exact ⟨i + 1, P2, _, _, _, fs2, _, _, s9, fi3, by omega, intNum, hg5l, hP2z, hs5, HFI, G6⟩
                    case measure => simp [intOf]; omega
                  · have hne2 : ¬ tt = n := fun e => hfit (htt.2.2.1 e)
                    have hne3 : ¬ (tt : Int) = (n : Int) := by omega
                    have HFB2 := Lib.hid (show ∃ mm, n - tt < mm ∧ fillB x mm tt (P2.map (·.1) ++ [g2 ++ (x.lines.drop f0).take (tt - f0) ++ (if x.kind = 3 then [moreS] else [])]) (if x.kind = 3 then [contS x.name] else []) = fq by
                      obtain ⟨mm, h1, h2⟩ := HFB.out
                      obtain ⟨m', rfl⟩ : ∃ m', mm = m' + 1 := ⟨mm - 1, by omega⟩
                      have h3 := fillB_more HX.out.1 (m := m') (f := f0) (P := P2.map (·.1)) (pg := g2) (by rw [HM2.out]; exact HRM.out) (by rw [HN.out, HM2.out]; exact hfit)
                      rw [HM2.out, HTQ.out] at h3
                      exact ⟨m', by omega, h3.symm.trans h2⟩)
                    have hP2z : P2.length ≤ 1000000000 := by
                      have h1 := HP1L.out
                      have h2 := Nat.mul_le_mul_right (M + 2) (show i + 1 ≤ L by omega)
                      rw [Nat.add_mul, Nat.one_mul] at h2
                      omega
                    have HM5L := Lib.hid (show ((g2 ++ (x.lines.drop f0).take (tt - f0)).map Value.string).length = m5 by rw [List.length_map]; exact HM5.out)
                    have hm5 : m5 ≤ 2000000 := by
                      rw [← HM5.out, List.length_append, List.length_take, List.length_drop, HM2.out, HN.out]
                      omega
                    clear HFB HM5 HRM HTQ
                    generalize g2 ++ (x.lines.drop f0).take (tt - f0) = g5 at *
                    by_cases h3 : x.kind = 3
                    · have e3 : ((x.kind : Int) == 3) = true := by rw [beq_iff_eq]; omega
                      rw [if_pos h3, if_pos h3] at HFB2
                      go_upto_region 23 with (fail)
                      have cp := G5.out.cells.1.2.2.2.1
                      obtain ⟨ι, ff, hne, hff, hfS⟩ := family (fun W => W.cell? ⟨p, 0, none⟩ = some (.slice A13 m5 q13)) w5 cp
                      have hneW : Nonempty World := ⟨w⟩
                      have HFS := Lib.hid hfS
                      have HC5 := Lib.hid cp
                      have HMR := Lib.hid (more_c w5.drew)
                      clear hfS cp b0 b1 b2 b3
                      refine wp_region_segs2 [1, 2] [] [] [([], [0], 1), ([], [], 2), ([], [], 3), ([], [], 4)] (by kernel_rfl) (by kernel_rfl) (fun _ _ _ dd _ h => by cases dd <;> exact h) (fun W => ∃ p : ι, W = ff p) (HFS.out _ HC5.out) ?_
                      refine wpSegs2_step (by simp only [pick, List.getElem?_cons_succ, List.getElem?_cons_zero]; rfl) (by simp only [pick, List.getElem?_cons_succ, List.getElem?_cons_zero]; rfl) rfl (fun K0 hK0 L0 hL0 => ?_)
                      repeat (first | go_big_quiet_step (fail) | quiet_step (fail))
                      refine wpQuiet_nil (hL0 _ ?_)
                      repeat (first | go_big_quiet_step (fail) | quiet_step (fail))
                      refine wpQuiet_nil ?_
                      go_simp
                      refine HMR.out.mono ?_
                      rintro e w6 ⟨rfl, hb6⟩
                      have G6 := Lib.hid (G5.out.drew.below hb6)
                      refine hK0 (fun W => ∃ p : ι, W = ff p) _ _ (fun _ h => h) (HFS.out _ G6.out.cells.1.2.2.2.1) ?_
                      clear hb6 HMR G5 HC5
                      refine wpSegs2_step (by simp only [pick, List.getElem?_cons_succ, List.getElem?_cons_zero]; rfl) (by simp only [pick, List.getElem?_cons_succ, List.getElem?_cons_zero]; rfl) rfl (fun K1 hK1 L1 hL1 => ?_)
                      repeat (first | go_big_quiet_step (fail) | quiet_step (fail))
                      refine wpQuiet_nil (hL1 _ ?_)
                      repeat (first | go_big_quiet_step (fail) | quiet_step (fail))
                      refine wpQuiet_nil ?_
                      go_simp
                      have G7 := Lib.hid (show LyM w o p f P2 g5 (.slice A13 m5 q13) (.slice A11 P2.length q11) fs2 (.slice A12 fs2.length q12) (st ++ [p1]) s9 fi3 [(B, #[.int .i64 (x.kind : Int), .slice (some ⟨bl, ol, none⟩) n q1, .slice A2 n2 q2, .string x.name], 131), (w.heap.size, #[.slice none 0 0, .slice none 0 0, .slice none 0 0], 52)] (w6.alloc (.cells #[.string moreS] 9)) from ⟨G6.out.mr.alloc _, G6.out.fl, G6.out.ne⟩)
                      refine hK1 (fun W => ∃ p : ι, W = ff p) _ _ (fun _ h => h) (HFS.out _ G7.out.cells.1.2.2.2.1) ?_
                      refine wpSegs2_step (by simp only [pick, List.getElem?_cons_succ, List.getElem?_cons_zero]; rfl) (by simp only [pick, List.getElem?_cons_succ, List.getElem?_cons_zero]; rfl) rfl (fun K2 hK2 L2 hL2 => ?_)
                      repeat (first | go_big_quiet_step (fail) | quiet_step (fail))
                      refine wpQuiet_nil (hL2 _ ?_)
                      repeat (first | go_big_quiet_step (fail) | quiet_step (fail))
                      refine wpQuiet_nil ?_
                      refine oper_mrPush rfl _ _ _ rfl 9 i0 _ 16 Tryz.underlying55 hi0 hz0 hz1 hz2 rfl (w6.alloc (.cells #[.string moreS] 9)) (.slice A13 m5 q13) (g5.map Value.string) m5 HM5L.out rfl G7.out.mr (.string moreS) rfl w6.heap.size _ _ (heap_alloc_new w6 _) rfl (by unfold maxLen; omega) (by omega) ?_
                      intro g7 cap7 w7 H7
                      have k7 := H7.cell (p := (p, #[.slice A13 m5 q13], 55)) (by simp)
                      have d7 : w7.cell? ⟨p, 0, none⟩ = some (.slice A13 m5 q13) := k7.1 0
                      have f7 : w7.frozen? ⟨p, 0, none⟩ = false := k7.2 0
                      refine hK2 (fun W => ∃ p : ι, W = ff p) _ _ (fun _ h => h) (HFS.out _ d7) ?_
                      have G8 := Lib.hid (LyM.page (pg2 := g5 ++ [moreS]) (by rw [List.map_append]; exact H7) G7.out.fl G7.out.ne)
                      clear H7 k7 G6 G7
                      refine wpSegs2_last (by simp only [pick, List.getElem?_cons_succ, List.getElem?_cons_zero]; rfl) (by simp only [pick, List.getElem?_cons_succ, List.getElem?_cons_zero]; rfl) rfl (by rfl) (fun K3 hK3 L3 hL3 => ?_)
                      repeat (first | go_big_quiet_step (fail) | quiet_step (fail))
                      refine wpQuiet_nil (hL3 _ ?_)
                      repeat (first | go_big_quiet_step (fail) | quiet_step (fail))
                      refine wpQuiet_nil ?_
                      go_simp
                      refine hK3 _ _ (wpSegs2_end ?_)
                      generalize w7.setCell ⟨p, 0, none⟩ (.slice (some ⟨g7, 0, none⟩) (m5 + 1) cap7) = w8' at *
                      clear d7 f7 HFS hff
                      have HFL := Lib.hid (flush_c w o p f P2 (g5 ++ [moreS]) _ _ fs2 _ (st ++ [p1]) s9 fi3 _ w8' G8.out hP2z)
                      clear G8
                      go_wp2_with fail
                      refine HFL.out.mono ?_
                      rintro e w9' ⟨rfl, pgV9, fs9, fV9, G9⟩
                      have G9 := Lib.hid G9
                      clear HFL
                      obtain ⟨b0, b1, b2, b3⟩ := HBC.out w9' (G9.out.mr.prv (B, #[.int .i64 (x.kind : Int), .slice (some ⟨bl, ol, none⟩) n q1, .slice A2 n2 q2, .string x.name], 131) (by simp)).1
                      go_upto_region 26 with (fail)
                      have cp := G9.out.cells.1.2.2.2.1
                      obtain ⟨ι, ff, hne, hff, hfS⟩ := family (fun W => W.cell? ⟨p, 0, none⟩ = some (.slice none 0 0) ∧ W.cell? ⟨B, 0, none⟩ = some (.int .i64 (x.kind : Int)) ∧ W.cell? ⟨B, 1, none⟩ = some (.slice (some ⟨bl, ol, none⟩) n q1) ∧ W.cell? ⟨B, 2, none⟩ = some (.slice A2 n2 q2) ∧ W.cell? ⟨B, 3, none⟩ = some (.string x.name)) w9' ⟨cp, b0, b1, b2, b3⟩
                      have r0 : ∀ q, (ff q).cell? ⟨p, 0, none⟩ = some (.slice none 0 0) := fun q => (hff q).1
                      have r1 : ∀ q, (ff q).cell? ⟨B, 0, none⟩ = some (.int .i64 (x.kind : Int)) := fun q => (hff q).2.1
                      have r2 : ∀ q, (ff q).cell? ⟨B, 1, none⟩ = some (.slice (some ⟨bl, ol, none⟩) n q1) := fun q => (hff q).2.2.1
                      have r3 : ∀ q, (ff q).cell? ⟨B, 2, none⟩ = some (.slice A2 n2 q2) := fun q => (hff q).2.2.2.1
                      have r4 : ∀ q, (ff q).cell? ⟨B, 3, none⟩ = some (.string x.name) := fun q => (hff q).2.2.2.2
                      have hneW : Nonempty World := ⟨w⟩
                      have HFS := Lib.hid hfS
                      have HC9 := Lib.hid (And.intro cp (And.intro b0 (And.intro b1 (And.intro b2 b3))))
                      have hgo := goesOn_c x (.slice (some ⟨bl, ol, none⟩) n q1) (.slice A2 n2 q2) w9'.drew (Nat.le_trans HX.out.2.1.2.2 (by decide))
                      unfold bkA at hgo
                      rw [show (x.kind : Int) = 3 by omega] at hgo
                      have HGO := Lib.hid hgo
                      have HCN := Lib.hid (fun (W : World) (q10 : Value) (h : ∀ y : Pc, y ∈ [(p, #[q10], 55), (B, #[.int .i64 (x.kind : Int), .slice (some ⟨bl, ol, none⟩) n q1, .slice A2 n2 q2, .string x.name], 131)] → W.heap[y.1]? = some (.cells y.2.1 y.2.2 (0, 0))) => show W.cell? ⟨p, 0, none⟩ = some q10 ∧ W.cell? ⟨B, 0, none⟩ = some (.int .i64 (x.kind : Int)) ∧ W.cell? ⟨B, 1, none⟩ = some (.slice (some ⟨bl, ol, none⟩) n q1) ∧ W.cell? ⟨B, 2, none⟩ = some (.slice A2 n2 q2) ∧ W.cell? ⟨B, 3, none⟩ = some (.string x.name) from
                        ⟨(str_cells (h (p, #[q10], 55) (by simp))).1 0, HBC.out W (h (B, #[.int .i64 (x.kind : Int), .slice (some ⟨bl, ol, none⟩) n q1, .slice A2 n2 q2, .string x.name], 131) (by simp))⟩)
                      have HPR := Lib.hid (fun (W : World) (gg : List ByteArray) (v : Value) (h : LyM w o p f (P2 ++ [(g5 ++ [moreS], .slice (some ⟨g7, 0, none⟩) (m5 + 1) cap7)]) gg v pgV9 fs9 fV9 (st ++ [p1]) s9 (-1) [(B, #[.int .i64 (x.kind : Int), .slice (some ⟨bl, ol, none⟩) n q1, .slice A2 n2 q2, .string x.name], 131), (w.heap.size, #[.slice none 0 0, .slice none 0 0, .slice none 0 0], 52)] W) => HCN.out W v fun y hy => (h.mr.prv y (by simp only [List.mem_cons, List.not_mem_nil, or_false] at hy ⊢; rcases hy with h | h <;> simp [h])).1)
                      clear hgo hff hfS cp b0 b1 b2 b3 HCN
                      refine wp_region_segs2 [2, 3, 4] [] [] [([], [0, 1], 2), ([], [], 3), ([], [], 4), ([], [], 5)] (by kernel_rfl) (by kernel_rfl) (fun _ _ _ dd _ h => by cases dd <;> exact h) (fun W => ∃ p : ι, W = ff p) (HFS.out _ HC9.out) ?_
                      refine wpSegs2_step (by simp only [pick, List.getElem?_cons_succ, List.getElem?_cons_zero]; rfl) (by simp only [pick, List.getElem?_cons_succ, List.getElem?_cons_zero]; rfl) rfl (fun K0 hK0 L0 hL0 => ?_)
                      repeat (first | go_big_quiet_step (fail) | quiet_step (fail))
                      refine wpQuiet_nil (hL0 _ ?_)
                      repeat (first | go_big_quiet_step (fail) | quiet_step (fail))
                      refine wpQuiet_nil ?_
                      go_simp
                      refine HGO.out.mono ?_
                      rintro e wa ⟨rfl, hba⟩
                      have Ga := Lib.hid (G9.out.drew.below hba)
                      refine hK0 (fun W => ∃ p : ι, W = ff p) _ _ (fun _ h => h) (HFS.out _ (HPR.out _ _ _ Ga.out)) ?_
                      clear hba HGO G9 HC9
                      refine wpSegs2_step (by simp only [pick, List.getElem?_cons_succ, List.getElem?_cons_zero]; rfl) (by simp only [pick, List.getElem?_cons_succ, List.getElem?_cons_zero]; rfl) rfl (fun K1 hK1 L1 hL1 => ?_)
                      repeat (first | go_big_quiet_step (fail) | quiet_step (fail))
                      refine wpQuiet_nil (hL1 _ ?_)
                      repeat (first | go_big_quiet_step (fail) | quiet_step (fail))
                      refine wpQuiet_nil ?_
                      go_simp
                      have Gb := Lib.hid (show LyM w o p f (P2 ++ [(g5 ++ [moreS], .slice (some ⟨g7, 0, none⟩) (m5 + 1) cap7)]) [] (.slice none 0 0) pgV9 fs9 fV9 (st ++ [p1]) s9 (-1) [(B, #[.int .i64 (x.kind : Int), .slice (some ⟨bl, ol, none⟩) n q1, .slice A2 n2 q2, .string x.name], 131), (w.heap.size, #[.slice none 0 0, .slice none 0 0, .slice none 0 0], 52)] (wa.alloc (.cells #[.string (contS x.name)] 9)) from ⟨Ga.out.mr.alloc _, Ga.out.fl, Ga.out.ne⟩)
                      refine hK1 (fun W => ∃ p : ι, W = ff p) _ _ (fun _ h => h) (HFS.out _ (HPR.out _ _ _ Gb.out)) ?_
                      refine wpSegs2_step (by simp only [pick, List.getElem?_cons_succ, List.getElem?_cons_zero]; rfl) (by simp only [pick, List.getElem?_cons_succ, List.getElem?_cons_zero]; rfl) rfl (fun K2 hK2 L2 hL2 => ?_)
                      repeat (first | go_big_quiet_step (fail) | quiet_step (fail))
                      refine wpQuiet_nil (hL2 _ ?_)
                      repeat (first | go_big_quiet_step (fail) | quiet_step (fail))
                      refine wpQuiet_nil ?_
                      refine oper_mrPush rfl _ _ _ rfl 9 i0 _ 16 Tryz.underlying55 hi0 hz0 hz1 hz2 rfl (wa.alloc (.cells #[.string (contS x.name)] 9)) (.slice none 0 0) [] 0 rfl rfl Gb.out.mr (.string (contS x.name)) rfl wa.heap.size _ _ (heap_alloc_new wa _) rfl (by decide) (by decide) ?_
                      intro gc capc wc2 Hc
                      have kc := Hc.cell (p := (p, #[.slice none 0 0], 55)) (by simp)
                      have dc : wc2.cell? ⟨p, 0, none⟩ = some (.slice none 0 0) := kc.1 0
                      have fc : wc2.frozen? ⟨p, 0, none⟩ = false := kc.2 0
                      have eb := HBC.out wc2 (Hc.prv (B, #[.int .i64 (x.kind : Int), .slice (some ⟨bl, ol, none⟩) n q1, .slice A2 n2 q2, .string x.name], 131) (by simp)).1
                      refine hK2 (fun W => ∃ p : ι, W = ff p) _ _ (fun _ h => h) (HFS.out _ ⟨dc, eb⟩) ?_
                      have Gd := Lib.hid (LyM.page (pg2 := [contS x.name]) Hc Gb.out.fl Gb.out.ne)
                      clear Hc kc Ga Gb eb
                      refine wpSegs2_last (by simp only [pick, List.getElem?_cons_succ, List.getElem?_cons_zero]; rfl) (by simp only [pick, List.getElem?_cons_succ, List.getElem?_cons_zero]; rfl) rfl (by rfl) (fun K3 hK3 L3 hL3 => ?_)
                      repeat (first | go_big_quiet_step (fail) | quiet_step (fail))
                      refine wpQuiet_nil (hL3 _ ?_)
                      repeat (first | go_big_quiet_step (fail) | quiet_step (fail))
                      refine wpQuiet_nil ?_
                      go_simp
                      refine hK3 _ _ (wpSegs2_end ?_)
                      have HRN := Lib.hid (room_next (b := x) (f := tt) (by omega))
                      rw [if_pos h3] at HRN
                      clear r0 r1 r2 r3 r4 HFS HPR dc fc
                      go_wp2
                      go_roundw
                      case rel => exact ⟨tt, P2 ++ [(g5 ++ [moreS], .slice (some ⟨g7, 0, none⟩) (m5 + 1) cap7)], [contS x.name], _, pgV9, fs9, fV9, -1, rfl, by omega, Nat.le_of_ble_eq_true rfl, by rw [List.length_append, List.length_singleton]; omega, HRN, Lib.hid (by rw [List.map_append]; exact HFB2.out), Gd⟩
                      case measure => simp [intOf]; omega
                    · have e3 : ((x.kind : Int) == 3) = false := by rw [beq_eq_false_iff_ne]; omega
                      rw [if_neg h3, if_neg h3, List.append_nil] at HFB2
                      have HFL := Lib.hid (flush_c w o p f P2 g5 _ _ fs2 _ (st ++ [p1]) s9 fi3 _ w5 G5.out hP2z)
                      clear G5
                      go_wp2_with fail
                      refine HFL.out.mono ?_
                      rintro e w9' ⟨rfl, pgV9, fs9, fV9, G9⟩
                      have G9 := Lib.hid G9
                      clear HFL b0 b1 b2 b3
                      obtain ⟨b0, b1, b2, b3⟩ := HBC.out w9' (G9.out.mr.prv (B, #[.int .i64 (x.kind : Int), .slice (some ⟨bl, ol, none⟩) n q1, .slice A2 n2 q2, .string x.name], 131) (by simp)).1
                      have HRN := Lib.hid (room_next (b := x) (f := tt) (by omega))
                      rw [if_neg h3] at HRN
                      go_wp2
                      go_roundw
                      case rel => exact ⟨tt, P2 ++ [(g5, .slice A13 m5 q13)], [], _, pgV9, fs9, fV9, -1, rfl, by omega, Nat.le_of_ble_eq_true rfl, by rw [List.length_append, List.length_singleton]; omega, HRN, Lib.hid (by rw [List.map_append]; exact HFB2.out), G9⟩
                      case measure => simp [intOf]; omega
    · have hiL : i = L := by omega
      subst hiL
      have HYE := Lib.hid (show layB (l.map (·.1)) [] [] [] = (Ps.map (·.1), pg, st) by
        have h := HY.out
        rw [List.drop_eq_nil_of_le (by rw [HL.out]; exact Nat.le_refl _), List.map_nil] at h
        exact h.symm)
      have hPz : Ps.length ≤ 1000000000 := by omega
      obtain ⟨⟨A3, q3, rfl⟩, ⟨A4, q4, rfl⟩, ⟨A5, q5, rfl⟩, ⟨A6, q6, rfl⟩⟩ := HG.out.form
      have HPG := Lib.hid (show pg = [] ↔ pg.length = 0 from List.length_eq_zero_iff.symm)
      obtain ⟨m, hm⟩ : ∃ m, pg.length = m := ⟨_, rfl⟩
      have HMM := Lib.hid hm
      rw [hm] at HG HPG hpl
      clear hm
      have cp := HG.out.cells.1.2.2.2.1
      go_upto_if 100 with (fail)
      go_cut [] (fun wx => ∃ (P1 : List (List ByteArray × Value)) (pg1 : List ByteArray) (pv1 pgV1 : Value) (fs1 : List Value) (fV1 : Value) (fi1 : Int), P1.map (·.1) = pagesB (l.map (·.1)) ∧ Hid (LyM w o p f P1 pg1 pv1 pgV1 fs1 fV1 st (.slice A6 st.length q6) fi1 [(w.heap.size, #[.slice none 0 0, .slice none 0 0, .slice none 0 0], 52)] wx))
      case first =>
        by_cases h0 : m = 0
        · subst h0
          have HPB := Lib.hid (show Ps.map (·.1) = pagesB (l.map (·.1)) by
            unfold pagesB
            rw [HYE.out]
            show _ = Ps.map (·.1) ++ (if pg = [] then [] else [pg])
            rw [if_pos (HPG.out.2 rfl), List.append_nil])
          go_wp2
          go_meet
          exact ⟨Ps, pg, _, _, fs, _, fi, HPB.out, HG⟩
        · have hm0 : 0 < m := by omega
          have HPB := Lib.hid (show Ps.map (·.1) ++ [pg] = pagesB (l.map (·.1)) by
            unfold pagesB
            rw [HYE.out]
            show _ = Ps.map (·.1) ++ (if pg = [] then [] else [pg])
            rw [if_neg (fun e => h0 (HPG.out.1 e))])
          have HFL := Lib.hid (flush_c w o p f Ps pg _ _ fs _ st _ fi _ wr HG.out hPz)
          go_wp2_with fail
          refine HFL.out.mono ?_
          rintro e w9 ⟨rfl, pgV9, fs9, fV9, G9⟩
          go_wp2
          go_meet
          exact ⟨Ps ++ [(pg, .slice A3 m q3)], [], _, pgV9, fs9, fV9, -1, by rw [List.map_append]; exact HPB.out, Lib.hid G9⟩
      case rest =>
        clear HG cp
        obtain ⟨P1, pg1, pv1, pgV1, fs1, fV1, fi1, HP1, G1⟩ := hcut
        have HP1 := Lib.hid HP1
        obtain ⟨_, ⟨A8, q8, rfl⟩, ⟨A9, q9, rfl⟩, _⟩ := G1.out.form
        obtain ⟨⟨d0, d1, d2, _⟩, _⟩ := G1.out.cells
        have kR := G1.out.mr.cell (p := (w.heap.size, #[.slice none 0 0, .slice none 0 0, .slice none 0 0], 52)) (by simp)
        have z0 : wc.cell? ⟨w.heap.size, 0, none⟩ = some (.slice none 0 0) := kR.1 0
        have z1 : wc.cell? ⟨w.heap.size, 1, none⟩ = some (.slice none 0 0) := kR.1 1
        have z2 : wc.cell? ⟨w.heap.size, 2, none⟩ = some (.slice none 0 0) := kR.1 2
        have y0 : wc.frozen? ⟨w.heap.size, 0, none⟩ = false := kR.2 0
        have y1 : wc.frozen? ⟨w.heap.size, 1, none⟩ = false := kR.2 1
        have y2 : wc.frozen? ⟨w.heap.size, 2, none⟩ = false := kR.2 2
        clear kR
        have hm := (((G1.out.mr.less (Q := [(w.heap.size, #[.slice none 0 0, .slice none 0 0, .slice none 0 0], 52)]) (by simp)).set (i := 0) (.slice A8 P1.length q8) (by simp)).set (i := 1) (.slice A9 fs1.length q9) (by simp)).set (i := 2) (.slice A6 st.length q6) (by simp)
        have HMR := Lib.hid (hm.less (Q := []) (by simp))
        clear hm
        go_wp2
        refine ⟨rfl, .agg #[.slice A8 P1.length q8, .slice A9 fs1.length q9, .slice A6 st.length q6], (by rw [results_cell1 rfl]; go_simp), ?_⟩
        refine ⟨P1, _, _, _, rfl, HP1.out, ⟨_, _, _, rfl⟩, ?_⟩
        rw [HYE.out]
        have hz := HMR.out
        exact ⟨hz.bel, fun r hr => hz.own r (by simp only [List.mem_cons] at hr ⊢; rcases hr with h | h | h <;> simp [h]), by
          have h1 := (List.pairwise_cons.1 hz.dis).2
          have h2 := List.pairwise_cons.1 h1
          have h3 := List.pairwise_cons.1 h2.2
          exact List.pairwise_cons.2 ⟨fun r hr => h2.1 r (by simp [hr]), h3.2⟩, fun q hq => by cases hq⟩
end Go.Proofs.YtndillbimibecaaGreatDoor

