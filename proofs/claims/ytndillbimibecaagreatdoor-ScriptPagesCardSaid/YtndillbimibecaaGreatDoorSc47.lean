/- Texts packed: SheE. -/
import Derived.Test.YtndillbimibecaaGreatDoorSc46
import Derived.Test.YtndillbimibecaaGreatDoorSc45
/- R.laid, walked: all blocks put on pages. -/
namespace Go.Proofs.YtndillbimibecaaGreatDoor
set_option linter.unusedVariables false
open Go.RowKit Go.Sort

theorem fillB_54 {b : Blk} (hb : GoodB b) : ∀ (m f : Nat) (P : List (List ByteArray)) (pg : List ByteArray), RoomOk b f (54 - pg.length) → pg.length ≤ 54 → b.lines.length - f < m → (fillB b m f P pg).2.length ≤ 54
  | 0, _, _, _, _, _, h => by omega
  | m + 1, f, P, pg, hr, hp, h1 => by
    by_cases h : b.lines.length - f ≤ 54 - pg.length
    · rw [fillB_end h]
      show (pg ++ b.lines.drop f).length ≤ 54
      rw [List.length_append, List.length_drop]
      omega
    · rw [fillB_more hb hr h]
      obtain ⟨s1, s2, s3, _⟩ := stopB_brk hb hr h
      exact fillB_54 hb m _ _ _ (room_next (by omega)) (by split <;> simp) (by omega)
theorem putB_inv {b : Blk} (hb : GoodB b) (r : List Blk) (q : PgQ) (h54 : q.2.length ≤ 54) : ¬ (putB b r q).1.2 = [] ∧ (putB b r q).1.2.length ≤ 54 := by
  have hp := hb.pos
  unfold putB
  dsimp only
  cases ht : topB b r q.2 with
  | true =>
    rw [if_pos rfl]
    exact ⟨fillB_page hb _ 0 _ _ (room_top b) (by omega) (by omega), fillB_54 hb _ 0 _ _ (room_top b) (by decide) (by omega)⟩
  | false =>
    have hroom := room_first (b := b) (r := r) (pg := q.2) ht
    have hno : ¬ (q.2 = [] ∨ 54 < q.2.length + b.gap + needB b r) := fun k => by rw [putB_top.2 k] at ht; cases ht
    have h5 : ¬ 54 < q.2.length + b.gap + needB b r := fun k => hno (.inr k)
    rw [if_neg (c := false = true) (by simp)]
    exact ⟨fillB_page hb _ 0 _ _ hroom (by omega) (by omega), fillB_54 hb _ 0 _ _ hroom (by rw [List.length_append, List.length_replicate]; omega) (by omega)⟩
/-- The first line of a group is its cue. -/
def NmOk (b : Blk) : Prop := b.kind = 3 → b.lines.head? = some (indS 20 b.name)
theorem blkPara_nm {l : List Blk} {p : Para} (h : ∀ b ∈ l, NmOk b) : ∀ b ∈ blkPara l p, NmOk b := by
  have hpush : ∀ b : Blk, NmOk b → ∀ c ∈ l ++ [b], NmOk c := fun b hb c hc => by
    rcases List.mem_append.1 hc with hc | hc
    · exact h c hc
    · rw [List.mem_singleton.1 hc]; exact hb
  have hput : ∀ kd at_ (ls : List ByteArray), ∀ c ∈ l.modify (l.length - 1) (fun b => b.put kd at_ ls), NmOk c := fun kd at_ ls c hc => by
    obtain ⟨j, hj⟩ := List.mem_iff_getElem?.1 hc
    rw [List.getElem?_modify] at hj
    cases hz : l[j]? with
    | none => rw [hz] at hj; cases hj
    | some y =>
      have hy := h y (List.mem_iff_getElem?.2 ⟨j, hz⟩)
      rw [hz] at hj
      by_cases e : l.length - 1 = j
      · simp [e] at hj
        subst hj
        intro h3
        have h4 := hy h3
        show (y.lines ++ ls.map (indS at_)).head? = some (indS 20 y.name)
        rw [List.head?_append, h4]
        rfl
      · simp [e] at hj
        subst hj
        exact hy
  unfold blkPara
  split
  · exact hpush _ (fun k => by cases k)
  · split
    · exact hpush _ (fun k => by cases k)
    · split
      · exact hpush _ (fun _ => rfl)
      · split
        · exact hput _ _ _
        · split
          · exact hput _ _ _
          · exact h
theorem fold_nm : ∀ (ps : List Para) (l : List Blk), (∀ b ∈ l, NmOk b) → ∀ b ∈ ps.foldl blkPara l, NmOk b
  | [], _, h => h
  | _ :: r, _, h => fold_nm r _ (blkPara_nm h)
theorem blocks_nm (x : Scene) : ∀ b ∈ blocksS x, NmOk b := fold_nm x.paras _ (fun b hb => by
  rw [List.mem_singleton.1 hb]
  intro k
  cases k)
theorem flat_nm (xs : List Scene) : ∀ b ∈ (xs.map blocksS).flatten, NmOk b := fun b hb => by
  obtain ⟨l, hl, hb⟩ := List.mem_flatten.1 hb
  obtain ⟨x, _, rfl⟩ := List.mem_map.1 hl
  exact blocks_nm x b hb
/-- The steps of the pages and of the starts. -/
def EqL (rest : List Blk) (q : PgQ) (A : List (List ByteArray)) (B : List ByteArray) : Prop := (layB rest q.1 q.2 []).1 = A ∧ (layB rest q.1 q.2 []).2.1 = B
theorem EqL.step {b : Blk} {rest : List Blk} {q : PgQ} {A : List (List ByteArray)} {B : List ByteArray} (h : EqL (b :: rest) q A B) : EqL rest (putB b rest q).1 A B := by
  obtain ⟨h1, h2⟩ := h
  rw [show layB (b :: rest) q.1 q.2 [] = layB rest (putB b rest q).1.1 (putB b rest q).1.2 ([] ++ [(putB b rest q).2]) from rfl] at h1 h2
  obtain ⟨a1, a2, _⟩ := layB_st rest (putB b rest q).1.1 (putB b rest q).1.2 ([] ++ [(putB b rest q).2])
  exact ⟨a1.symm.trans h1, a2.symm.trans h2⟩
theorem rbAt {w : World} {F : Nat → Prop} {l : List BkT} {A : Option Addr} {n c : Nat} (h : Sli rbR w F l (.slice A n c)) (k : Nat) (hk : k < l.length) : ∃ b off, A = some ⟨b, off, none⟩ ∧ F b ∧ w.cell? ⟨b, off + k * 3, none⟩ = some (.int .i64 (rkN l[k].1.kind)) ∧ w.cell? ⟨b, off + k * 3 + 1, none⟩ = some l[k].2.1 ∧ w.cell? ⟨b, off + k * 3 + 2, none⟩ = some l[k].2.2 := by
  obtain ⟨b, off, a, e, hb, hr, hc⟩ := h.at_ k hk
  have ha : a = [.int .i64 (rkN l[k].1.kind), l[k].2.1, l[k].2.2] := hr
  subst ha
  exact ⟨b, off, e, hb, hc 0 _ rfl, hc 1 _ rfl, hc 2 _ rfl⟩
def stRow (st : List Nat) (v : Value) : Row := (3, st.map (fun k : Nat => Value.int .i64 (k : Int)), v)
def tpRow (tp : List Value) (v : Value) : Row := (4, tp, v)
def LdrP (xs : List Scene) (w : World) (e : Ending) (w' : World) : Prop := ∃ (Qs : List PgL) (v sV tV : Value) (tp : List Value), e = .returned (.tuple #[v, sV, tV]) ∧ Qs.map (·.1) = pagesB ((xs.map blocksS).flatten) ∧ MR w ((55, Qs.map (·.2), v) :: (Qs.map rowP ++ [stRow (stR (xs.map blocksS) ([], [])) sV, tpRow tp tV])) [] w'
section
variable {w wx : World} {o : Nat} {Qs : List PgL} {v sV tV : Value} {st : List Nat} {tp : List Value} {X : List Pc}
theorem ShM.fronts (h : ShM w o Qs v [stRow st sV, tpRow tp tV] X wx) : MR w (stRow st sV :: ((55, Qs.map (·.2), v) :: Qs.map rowP ++ [tpRow tp tV])) ((o, #[v], 102) :: X) wx :=
  MR.pick (a := (55, Qs.map (·.2), v) :: Qs.map rowP) (r := stRow st sV) (b := [tpRow tp tV]) h.mr
theorem ShM.frontt (h : ShM w o Qs v [stRow st sV, tpRow tp tV] X wx) : MR w (tpRow tp tV :: ((55, Qs.map (·.2), v) :: Qs.map rowP ++ [stRow st sV])) ((o, #[v], 102) :: X) wx := by
  have h2 := h.mr
  rw [show [stRow st sV, tpRow tp tV] = [stRow st sV] ++ [tpRow tp tV] from rfl, ← List.append_assoc] at h2
  have h3 := MR.pick (a := (55, Qs.map (·.2), v) :: (Qs.map rowP ++ [stRow st sV])) (r := tpRow tp tV) (b := []) h2
  rw [List.append_nil] at h3
  exact h3
theorem ShM.backs (h : MR w (stRow st sV :: ((55, Qs.map (·.2), v) :: Qs.map rowP ++ [tpRow tp tV])) ((o, #[v], 102) :: X) wx) (hne : ∀ x ∈ X, x.1 ≠ o) : ShM w o Qs v [stRow st sV, tpRow tp tV] X wx :=
  ⟨MR.unpick (a := (55, Qs.map (·.2), v) :: Qs.map rowP) (r := stRow st sV) (b := [tpRow tp tV]) h, hne⟩
theorem ShM.backt (h : MR w (tpRow tp tV :: ((55, Qs.map (·.2), v) :: Qs.map rowP ++ [stRow st sV])) ((o, #[v], 102) :: X) wx) (hne : ∀ x ∈ X, x.1 ≠ o) : ShM w o Qs v [stRow st sV, tpRow tp tV] X wx := by
  refine ⟨?_, hne⟩
  rw [show [stRow st sV, tpRow tp tV] = [stRow st sV] ++ [tpRow tp tV] from rfl, ← List.append_assoc]
  have h3 := MR.unpick (a := (55, Qs.map (·.2), v) :: (Qs.map rowP ++ [stRow st sV])) (r := tpRow tp tV) (b := []) (by rw [List.append_nil]; exact h)
  exact h3
end
set_option maxRecDepth 100000 in
set_option maxHeartbeats 16000000 in
theorem laidR_c {F : Nat → Prop} (L : List ScB) (A : Option Addr) (c : Nat) (w : World) (h : RbS w F L (.slice A L.length c)) (hF : ∀ q, F q → q < w.heap.size) (xs : List Scene) (hx : L.map (fun y => y.1.map (·.1)) = xs.map blocksS) (hl : xs.length ≤ 91) (hok : ∀ x ∈ xs, LnOk x) (hpn : ∀ x ∈ xs, x.paras.length ≤ 61) :
    Calls Tryz.prog 25 #[.slice A L.length c] w (LdrP xs w) := by
  obtain ⟨i0, hi0, hz0, hz1, hz2⟩ := info_parts (show (Tryz.prog.info? 3).map (fun i => (i.zero, i.size, i.bytes)) = some (some (.int .i64 0), 1, 8) by kernel_rfl)
  obtain ⟨i1, hi1, hy0, hy1, hy2⟩ := info_parts (show (Tryz.prog.info? 4).map (fun i => (i.zero, i.size, i.bytes)) = some (some (.bool false), 1, 1) by kernel_rfl)
  have hLx : L.length = xs.length := by have := congrArg List.length hx; rw [List.length_map, List.length_map] at this; exact this
  obtain ⟨NL, hNL⟩ : ∃ n, L.length = n := ⟨_, rfl⟩
  have HNL := Lib.hid hNL
  have HXL := Lib.hid (show xs.length = NL by omega)
  have HRB := Lib.hid (fun (W : World) (hb : Below w.heap.size w W) => h.below hb hF)
  have HF := Lib.hid hF
  have HX := Lib.hid hx
  have HFF := Lib.hid (flat_few xs hok hpn)
  have HNM := Lib.hid (flat_nm xs)
  have hl91 : NL ≤ 91 := by omega
  obtain ⟨TA, hTA⟩ : ∃ TA, (layB ((xs.map blocksS).flatten) [] [] []).1 = TA := ⟨_, rfl⟩
  obtain ⟨TB, hTB⟩ : ∃ TB, (layB ((xs.map blocksS).flatten) [] [] []).2.1 = TB := ⟨_, rfl⟩
  obtain ⟨TS, hTS⟩ : ∃ TS, stR (xs.map blocksS) ([], []) = TS := ⟨_, rfl⟩
  have HTT := Lib.hid (And.intro hTA (And.intro hTB hTS))
  have hb62 := (flat_few xs hok hpn).1
  have HB62 := Lib.hid (fun x (hx : x ∈ xs) => blocks_few (hok x hx) (hpn x hx))
  have m0 := ((((MR.start w).new #[.slice none 0 0] 102).nil 4).nil 3).nil 55
  have G0 := Lib.hid (show ShM w w.heap.size [] (.slice none 0 0) [stRow [] (.slice none 0 0), tpRow [] (.slice none 0 0)] [] (w.alloc (.cells #[.slice none 0 0] 102)) from ⟨m0, fun x hx => by cases hx⟩)
  rw [hNL] at HRB ⊢
  clear h hF hx hLx hNL hTA hTB hTS hok hpn hl m0 hb62
  go_enter Tryz.func25, Tryz.ntmps25
  go_upto_region 2 with (fail)
  generalize w.alloc (.cells #[.slice none 0 0] 102) = W0 at *
  go_wp2
  go_loopw [3, 4, 13] (fun sv tv iv wr => ∃ (k : Nat) (q : PgQ) (st : List Nat) (tp : List Value) (Qs : List PgL) (v : Value), k ≤ NL ∧ iv = .int .i64 k ∧ q.2.length ≤ 54 ∧ q.1.length ≤ k * 62 * 8502 ∧ st.length = k ∧ tp.length = k ∧ Hid (q.2 = [] → q.1 = []) ∧ Hid (EqL (((xs.drop k).map blocksS).flatten) q TA TB) ∧ Hid (st ++ stR ((xs.drop k).map blocksS) q = TS) ∧ Hid (Qs.map (·.1) = stQ q) ∧ Hid (ShM w w.heap.size Qs v [stRow st sv, tpRow tp tv] [] wr)) (fun _ _ iv _ => NL - (intOf iv).toNat)
  case atStart => exact ⟨0, ([], []), [], [], [], _, Nat.zero_le _, rfl, by decide, Nat.zero_le _, rfl, rfl, (fun _ => rfl), ⟨HTT.out.1, HTT.out.2.1⟩, HTT.out.2.2, rfl, G0⟩
  case round =>
    clear G0
    obtain ⟨k, q, st, tp, Qs, v, hk, rfl, h54, hql, hsl, htl, HQ0, HE, HS, HQ, HG⟩ := hrel
    obtain ⟨⟨As, qs, es⟩, ⟨At, qt, et⟩⟩ : (∃ A c, u3 = .slice A st.length c) ∧ ∃ A c, u4 = .slice A tp.length c := by
      obtain ⟨A1, c1, e1⟩ := own_sl (HG.out.fronts.own _ (List.mem_cons_self ..))
      obtain ⟨A2, c2, e2⟩ := own_sl (HG.out.frontt.own _ (List.mem_cons_self ..))
      have e1' : u3 = .slice A1 (st.map (fun k : Nat => Value.int .i64 (k : Int))).length c1 := e1
      have e2' : u4 = .slice A2 tp.length c2 := e2
      rw [List.length_map] at e1'
      exact ⟨⟨A1, c1, e1'⟩, ⟨A2, c2, e2'⟩⟩
    subst es
    subst et
    by_cases hlt : k < NL
    · have hkL : k < L.length := by rw [HNL.out]; exact hlt
      have hkx : k < xs.length := by rw [HXL.out]; exact hlt
      have hkm : k < (L.map (·.2)).length := by rw [List.length_map]; exact hkL
      have hbel := HG.out.mr.bel
      obtain ⟨b, off, rfl, hfb, c0⟩ := valAt (HRB.out wr hbel).sli k hkm
      rw [List.getElem_map] at c0
      obtain ⟨A3, c3, e3, _, _⟩ := ((HRB.out wr hbel).blk _ (List.getElem_mem hkL)).form
      rw [e3] at c0
      have HPB := Lib.hid (fun (W : World) (hb : Below w.heap.size w W) => show Sli rbR W F (L[k]'hkL).1 (.slice A3 (L[k]'hkL).1.length c3) ∧ (∀ x ∈ (L[k]'hkL).1, Sli strR W F x.1.lines x.2.1) ∧ ∀ x ∈ (L[k]'hkL).1, Sli boR W F x.1.kinds x.2.2 from ⟨e3 ▸ (HRB.out W hb).blk _ (List.getElem_mem hkL), fun x hx => (HRB.out W hb).ln _ (List.getElem_mem hkL) x hx, fun x hx => (HRB.out W hb).kd _ (List.getElem_mem hkL) x hx⟩)
      have hbs : (L[k]'hkL).1.map (·.1) = blocksS (xs[k]'hkx) := by
        have h1 : (L.map (fun y => y.1.map (·.1)))[k]? = (xs.map blocksS)[k]? := by rw [HX.out]
        rw [List.getElem?_map, List.getElem?_map, List.getElem?_eq_getElem hkL, List.getElem?_eq_getElem hkx] at h1
        injection h1
      have HBS := Lib.hid hbs
      have hdr : (xs.drop k).map blocksS = blocksS (xs[k]'hkx) :: (xs.drop (k + 1)).map blocksS := by rw [List.drop_eq_getElem_cons hkx, List.map_cons]
      rw [hdr] at HE HS
      have HMEM := Lib.hid (show ∀ y ∈ blocksS (xs[k]'hkx), y ∈ (xs.map blocksS).flatten from fun y hy => List.mem_flatten.2 ⟨_, List.mem_map_of_mem (List.getElem_mem hkx), hy⟩)
      have HMER := Lib.hid (show ∀ y ∈ ((xs.drop (k + 1)).map blocksS).flatten, y ∈ (xs.map blocksS).flatten from fun y hy => by
        obtain ⟨l, hl, hy⟩ := List.mem_flatten.1 hy
        obtain ⟨x, hx, rfl⟩ := List.mem_map.1 hl
        exact List.mem_flatten.2 ⟨_, List.mem_map_of_mem (List.mem_of_mem_drop hx), hy⟩)
      have hsh := blocks_shape (xs[k]'hkx)
      have hm62 := (HB62.out _ (List.getElem_mem hkx)).1
      obtain ⟨Ls, hLs⟩ : ∃ Ls, xs.drop (k + 1) = Ls := ⟨_, rfl⟩
      have HLS := Lib.hid hLs
      rw [hLs] at HE HS HMER
      generalize (L[k]'hkL).1 = l at *
      generalize blocksS (xs[k]'hkx) = bs at *
      obtain ⟨m, hm⟩ : ∃ m, l.length = m := ⟨_, rfl⟩
      have hmb : bs.length = m := by rw [← hbs, List.length_map, hm]
      have HM := Lib.hid (And.intro hm hmb)
      rw [hm] at c0 HPB
      have hm0 : 0 < m := by
        obtain ⟨a, t, e, _⟩ := hsh
        rw [← hmb, e]
        simp
      rw [hmb] at hm62
      have HSH := Lib.hid hsh
      rw [List.flatten_cons] at HE
      obtain ⟨Rr, hRr⟩ : ∃ Rr, (Ls.map blocksS).flatten = Rr := ⟨_, rfl⟩
      have HRR := Lib.hid hRr
      rw [hRr] at HE HMER
      clear hkL hkx hkm hbel e3 hbs hdr hsh hLs hm hmb hRr
      go_wp2
      go_loopw [3, 4, 19] (fun sv tv iv wr => ∃ (j : Nat) (q : PgQ) (st : List Nat) (tp : List Value) (Qs : List PgL) (v : Value), j ≤ m ∧ iv = .int .i64 j ∧ q.2.length ≤ 54 ∧ q.1.length ≤ (k * 62 + j) * 8502 ∧ st.length = (if j = 0 then k else k + 1) ∧ tp.length = (if j = 0 then k else k + 1) ∧ Hid (q.2 = [] → q.1 = []) ∧ Hid (EqL (bs.drop j ++ Rr) q TA TB) ∧ Hid ((j = 0 ∧ st ++ stR (bs :: Ls.map blocksS) q = TS) ∨ (0 < j ∧ st ++ stR (Ls.map blocksS) (runB (bs.drop j) Rr q).1 = TS)) ∧ Hid (Qs.map (·.1) = stQ q) ∧ Hid (ShM w w.heap.size Qs v [stRow st sv, tpRow tp tv] [] wr)) (fun _ _ iv _ => m - (intOf iv).toNat)
      case atStart => exact ⟨0, q, st, tp, Qs, v, Nat.zero_le _, rfl, h54, by rw [Nat.add_zero]; exact hql, by rw [if_pos rfl]; exact hsl, by rw [if_pos rfl]; exact htl, HQ0, HE, Lib.hid (.inl ⟨rfl, HS.out⟩), HQ, HG⟩
      case round =>
        clear HG HQ0 HE HS HQ c0 h54 hql hsl htl
        obtain ⟨j, q, st, tp, Qs, v, hj, rfl, h54, hql, hsl, htl, HQ0, HE, HS, HQ, HG⟩ := hrel
        obtain ⟨⟨As, qs, es⟩, ⟨At, qt, et⟩⟩ : (∃ A c, u3 = .slice A st.length c) ∧ ∃ A c, u4 = .slice A tp.length c := by
          obtain ⟨A1, c1, e1⟩ := own_sl (HG.out.fronts.own _ (List.mem_cons_self ..))
          obtain ⟨A2, c2, e2⟩ := own_sl (HG.out.frontt.own _ (List.mem_cons_self ..))
          have e1' : u3 = .slice A1 (st.map (fun k : Nat => Value.int .i64 (k : Int))).length c1 := e1
          have e2' : u4 = .slice A2 tp.length c2 := e2
          rw [List.length_map] at e1'
          exact ⟨⟨A1, c1, e1'⟩, ⟨A2, c2, e2'⟩⟩
        subst es
        subst et
        by_cases hjm : j < m
        · have hjl : j < l.length := by rw [HM.out.1]; exact hjm
          have hjb : j < bs.length := by rw [HM.out.2]; exact hjm
          have hbel := HG.out.mr.bel
          obtain ⟨p1, p2, p3⟩ := HPB.out wr hbel
          obtain ⟨b3, off3, rfl, hfb3, c0, c1, c2⟩ := rbAt p1 j hjl
          obtain ⟨A4, cc4, e4, _, _⟩ := (p2 _ (List.getElem_mem hjl)).form
          obtain ⟨A5, cc5, e5, _, _⟩ := (p3 _ (List.getElem_mem hjl)).form
          rw [e4] at c1
          rw [e5] at c2
          have HLW := Lib.hid (show Sli strR w F (l[j]'hjl).1.lines (.slice A4 (l[j]'hjl).1.lines.length cc4) ∧ ∀ W, Below w.heap.size w W → Sli boR W F (l[j]'hjl).1.kinds (.slice A5 (l[j]'hjl).1.kinds.length cc5) from ⟨e4 ▸ (HPB.out w (Below.refl _ _)).2.1 _ (List.getElem_mem hjl), fun W hb => e5 ▸ (HPB.out W hb).2.2 _ (List.getElem_mem hjl)⟩)
          have heq : (l[j]'hjl).1 = bs[j]'hjb := by
            have h1 : (l.map (·.1))[j]? = bs[j]? := by rw [HBS.out]
            rw [List.getElem?_map, List.getElem?_eq_getElem hjl, List.getElem?_eq_getElem hjb] at h1
            injection h1
          have hdrop : bs.drop j = bs[j]'hjb :: bs.drop (j + 1) := List.drop_eq_getElem_cons hjb
          have HD0 := Lib.hid (show j = 0 → bs = bs[j]'hjb :: bs.drop (j + 1) from fun h => by subst h; exact hdrop)
          have hbm := HMEM.out _ (List.getElem_mem hjb)
          have HGB := Lib.hid (HFF.out.2 _ hbm)
          have HNB := Lib.hid (HNM.out _ hbm)
          have hkd : (j = 0 → (bs[j]'hjb).kind = 0) ∧ (0 < j → ¬ (bs[j]'hjb).kind = 0) := by
            obtain ⟨a, t, e, h1, h2⟩ := HSH.out
            subst e
            refine ⟨fun h0 => by subst h0; exact h1, fun h0 => ?_⟩
            obtain ⟨j', rfl⟩ : ∃ j', j = j' + 1 := ⟨j - 1, by omega⟩
            exact h2 _ (List.getElem_mem (by simpa using hjb))
          have HND := Lib.hid (need_le (b := bs[j]'hjb) (r := bs.drop (j + 1) ++ Rr) (M := 8500) (HFF.out.2 _ hbm).2.2 (fun y hy => by
            rcases List.mem_append.1 hy with hy | hy
            · exact (HFF.out.2 _ (HMEM.out y (List.mem_of_mem_drop hy))).2.2
            · exact (HFF.out.2 _ (HMER.out y hy)).2.2))
          have HQL := Lib.hid (show Qs.length ≤ 500000000 by
            have h1 := congrArg List.length HQ.out
            rw [List.length_map] at h1
            rw [h1]
            unfold stQ
            split
            · omega
            · rw [List.length_append, List.length_singleton]; omega)
          rw [hdrop] at HE HS
          rw [heq] at c0 c1 c2 HLW
          have HJ2 := Lib.hid (fun (h : j + 1 < m) => show ∃ (h2 : j + 1 < l.length) (h3 : j + 1 < bs.length), (l[j + 1]'h2).1 = bs[j + 1]'h3 ∧ bs.drop (j + 1) = bs[j + 1]'h3 :: bs.drop (j + 2) ∧ (0 < j + 1 → ¬ (bs[j + 1]'h3).kind = 0) ∧ (bs[j + 1]'h3) ∈ (xs.map blocksS).flatten from by
            have h2 : j + 1 < l.length := by rw [HM.out.1]; exact h
            have h3 : j + 1 < bs.length := by rw [HM.out.2]; exact h
            refine ⟨h2, h3, ?_, List.drop_eq_getElem_cons h3, fun _ => ?_, HMEM.out _ (List.getElem_mem h3)⟩
            · have h1 : (l.map (·.1))[j + 1]? = bs[j + 1]? := by rw [HBS.out]
              rw [List.getElem?_map, List.getElem?_eq_getElem h2, List.getElem?_eq_getElem h3] at h1
              injection h1
            · obtain ⟨a, t, e, h1, h4⟩ := HSH.out
              subst e
              exact h4 _ (List.getElem_mem (by simpa using h3)))
          have HJ3 := Lib.hid (fun (h : ¬ j + 1 < m) => show bs.drop (j + 1) = [] from List.drop_eq_nil_of_le (by rw [HM.out.2]; omega))
          generalize bs[j]'hjb = bk at *
          clear hbel p1 p2 p3 e4 e5 heq hdrop hbm
          obtain ⟨n, hn⟩ : ∃ n, bk.lines.length = n := ⟨_, rfl⟩
          obtain ⟨n5, hn5⟩ : ∃ n, bk.kinds.length = n := ⟨_, rfl⟩
          have HN := Lib.hid (And.intro hn hn5)
          have HFL := Lib.hid (fun (W : World) (X : List Pc) (hW : ShM w w.heap.size Qs v [stRow st (.slice As st.length qs), tpRow tp (.slice At tp.length qt)] X W) => fill_c w.heap.size Qs v [stRow st (.slice As st.length qs), tpRow tp (.slice At tp.length qt)] X bk A4 cc4 A5 bk.kinds.length cc5 (bs.drop (j + 1) ++ Rr) q W hW HQ.out HQ0.out h54 HGB.out.1 (by have := HGB.out.2.2; omega) HLW.out.1 (HLW.out.2 w (Below.refl _ _)) HF.out (by have := HND.out; omega) HQL.out (indS 20 bk.name) (by
            have h1 := HGB.out.2.1.2.2
            have h2 : (indS 20 bk.name).size = 20 + bk.name.size := by
              show (blanks 20 ++ bk.name : ByteArray).size = _
              rw [ByteArray.size_append, blanks_size]
            omega) (fun h3 => ⟨HNB.out h3, rfl⟩))
          have HHD := Lib.hid (fun (W : World) (hb : Below w.heap.size w W) => headR_c bk A4 cc4 A5 bk.kinds.length cc5 W (by have := HGB.out.2.2; omega) (HLW.out.2 W hb) (fun q hq => Nat.lt_of_lt_of_le (HF.out q hq) hb.size) HGB.out.1.ks)
          have HPI := Lib.hid (putB_inv HGB.out.1 (bs.drop (j + 1) ++ Rr) q h54)
          have HPL := Lib.hid (show (putB bk (bs.drop (j + 1) ++ Rr) q).1.1.length ≤ (k * 62 + (j + 1)) * 8502 by
            have h1 := (putB_len bk (bs.drop (j + 1) ++ Rr) q).1
            have h2 := HGB.out.2.2
            omega)
          have hG1 := HG.out.new (rbA bk (.slice A4 bk.lines.length cc4) (.slice A5 bk.kinds.length cc5)) 105
          obtain ⟨la, hla⟩ : ∃ la, leastB bk = la := ⟨_, rfl⟩
          have hla2 : la ≤ 8502 := by
            have h1 := leastB_le (b := bk)
            have h2 := HGB.out.2.2
            omega
          have HLA := Lib.hid hla
          unfold rbA at HFL HHD hG1
          rw [hn, hn5] at HFL HHD hG1
          rw [hn] at c1
          rw [hn5] at c2
          simp only [hla] at HHD
          clear hn hn5 hla HLW HG
          by_cases j0 : j = 0
          · have hk0 := hkd.1 j0
            have HJ0 := Lib.hid j0
            rw [rkN_0 _ hk0] at HFL HHD hG1 c0
            rw [if_pos j0] at hsl htl
            have HSLT := Lib.hid (And.intro hsl htl)
            have hsb : st.length ≤ 92 ∧ tp.length ≤ 92 := ⟨by omega, by omega⟩
            clear hsl htl
            have HS0 := Lib.hid (HS.out.resolve_right (fun h => by have := h.1; omega)).2
            have HK0 := Lib.hid hk0
            clear hkd hk0 HS j0
            go_upto_region 8 with (fail)
            generalize wr.alloc (.cells #[.int .i64 0, .slice A4 n cc4, .slice A5 n5 cc5] 105) = w1 at *
            generalize wr.heap.size = B at *
            have G1 := Lib.hid hG1
            clear hG1 c0 c1 c2
            have HBC := Lib.hid (fun (W : World) (Qs : List PgL) (v : Value) (Rs : List Row) (h : ShM w w.heap.size Qs v Rs [(B, #[.int .i64 0, .slice A4 n cc4, .slice A5 n5 cc5], 105)] W) => show W.cell? ⟨B, 0, none⟩ = some (.int .i64 0) ∧ W.cell? ⟨B, 1, none⟩ = some (.slice A4 n cc4) ∧ W.cell? ⟨B, 2, none⟩ = some (.slice A5 n5 cc5) from
              have y := (h.mr.cell (p := (B, #[.int .i64 0, .slice A4 n cc4, .slice A5 n5 cc5], 105)) (by simp)).1
              ⟨y 0, y 1, y 2⟩)
            obtain ⟨d0, d1, d2⟩ := HBC.out w1 _ _ _ G1.out
            obtain ⟨nd, hnd⟩ : ∃ nd, needB bk (bs.drop (j + 1) ++ Rr) = nd := ⟨_, rfl⟩
            have HNE := Lib.hid hnd
            rw [hnd] at HFL HND
            clear hnd
            go_wp2_with fail
            refine (HHD.out w1 G1.out.mr.bel).mono ?_
            rintro e w2 ⟨rfl, hb2⟩
            have G2 := Lib.hid (G1.out.below hb2)
            clear hb2 HHD G1 d0 d1 d2
            obtain ⟨d0, d1, d2⟩ := HBC.out w2 _ _ _ G2.out
            go_upto_if 35 with (fail)
            go_cut [10] (fun nv wx => nv = .int .i64 (nd : Int) ∧ Hid (ShM w w.heap.size Qs v [stRow st (.slice As st.length qs), tpRow tp (.slice At tp.length qt)] [(B, #[.int .i64 0, .slice A4 n cc4, .slice A5 n5 cc5], 105)] wx))
            case first =>
              by_cases hm1 : j + 1 < m
              · obtain ⟨h2, h3, e1, e2, e3, e4⟩ := HJ2.out hm1
                obtain ⟨p1, p2, p3⟩ := HPB.out w2 G2.out.mr.bel
                obtain ⟨b4, off4, eb, hfb4, k0, k1, k2⟩ := rbAt p1 (j + 1) h2
                injection eb with eb
                injection eb with eb1 eb2
                subst eb1
                subst eb2
                obtain ⟨A6, cc6, e6, _, _⟩ := (p2 _ (List.getElem_mem h2)).form
                obtain ⟨A7, cc7, e7, _, _⟩ := (p3 _ (List.getElem_mem h2)).form
                have hkk := p3 _ (List.getElem_mem h2)
                rw [e6] at k1
                rw [e7] at k2 hkk
                have hgy := HFF.out.2 _ e4
                rw [← e1] at hgy
                have HH2 := headR_c (l[j + 1]'h2).1 A6 cc6 A7 (l[j + 1]'h2).1.kinds.length cc7 w2 (by have := hgy.2.2; omega) hkk (fun q hq => Nat.lt_of_lt_of_le (HF.out q hq) G2.out.mr.size) hgy.1.ks
                have hnn : nd = la + (1 + leastB (l[j + 1]'h2).1) := by
                  rw [← HNE.out, ← HRR.out, e2, need_scene, need_head HK0.out (e3 (by omega)), HLA.out, e1]
                have hle := leastB_le (b := (l[j + 1]'h2).1)
                have hly := hgy.2.2
                unfold rbA at HH2
                clear e1 e2 e3 e4 e6 e7 hkk hgy p1 p2 p3
                generalize (l[j + 1]'h2).1 = y at *
                generalize y.lines.length = ny at *
                generalize y.kinds.length = ny5 at *
                generalize rkN y.kind = ry at *
                generalize leastB y = ly at *
                have HH2 := Lib.hid HH2
                have HNN := Lib.hid (show ((la : Int) + (1 + (ly : Int))) = (nd : Int) by omega)
                have hm1' : (j : Int) + 1 < (m : Int) := by omega
                go_wp2_with fail
                refine HH2.out.mono ?_
                rintro e w3 ⟨rfl, hb3⟩
                go_wp2
                go_meet
                exact ⟨by rw [HNN.out], Lib.hid (G2.out.below hb3)⟩
              · have hm1' : ¬ (j : Int) + 1 < (m : Int) := by omega
                have HNN := Lib.hid (show la = nd by
                  rw [← HNE.out, ← HRR.out, HJ3.out hm1, need_scene, need_last HK0.out, HLA.out])
                go_wp2
                go_meet
                exact ⟨by rw [HNN.out], G2⟩
            case rest =>
              clear G2 d0 d1 d2
              obtain ⟨rfl, G3⟩ := hcut
              obtain ⟨d0, d1, d2⟩ := HBC.out wc _ _ _ G3.out
              have HFC := Lib.hid (HFL.out wc _ G3.out)
              go_wp2_with fail
              refine HFC.out.mono ?_
              rintro e w5 ⟨rfl, Qs5, v5, G5, hQ5⟩
              have HQ5 := Lib.hid hQ5
              obtain ⟨Av, cv, rfl⟩ := G5.form
              have HFT := Lib.hid (show MR w ((4, tp, .slice At tp.length qt) :: _) _ w5 from G5.frontt)
              have HNX := Lib.hid G5.ne
              generalize topB bk (bs.drop (j + 1) ++ Rr) q.2 = tb at *
              clear hQ5 HFC G3 d0 d1 d2 G5
              go_upto_region 13 with (at_builtin; (refine wpList_mrPush rfl _ _ _ rfl 4 i1 _ 1 Tryz.underlying65 hi1 hy0 hy1 hy2 rfl _ (.slice At tp.length qt) tp tp.length rfl rfl (HFT.out.alloc (.cells #[.bool tb] 4)) (.bool tb) rfl w5.heap.size _ _ (heap_alloc_new w5 _) rfl (by unfold maxLen; omega) (by omega) ?_); intro g6 cap6 w6 H6)
              have G6 := Lib.hid (ShM.backt (st := st) (sV := .slice As st.length qs) H6 HNX.out)
              have k6 := G6.out.box.1
              have HFS := Lib.hid (show MR w ((3, st.map (fun k : Nat => Value.int .i64 (k : Int)), .slice As st.length qs) :: _) _ w6 from G6.out.fronts)
              have HSM := Lib.hid (show (st.map (fun k : Nat => Value.int .i64 (k : Int))).length = st.length from List.length_map ..)
              clear H6 HFT
              go_upto_region 15 with (at_builtin; (refine wpList_mrPush rfl _ _ _ rfl 3 i0 _ 8 Tryz.underlying22 hi0 hz0 hz1 hz2 rfl _ (.slice As st.length qs) (st.map (fun k : Nat => Value.int .i64 (k : Int))) st.length HSM.out rfl (HFS.out.alloc (.cells #[.int .i64 (Qs5.length : Int)] 3)) (.int .i64 (Qs5.length : Int)) rfl w6.heap.size _ _ (heap_alloc_new w6 _) rfl (by unfold maxLen; omega) (by omega) ?_); intro g7 cap7 w7 H7)
              have G7 := Lib.hid (ShM.backs (st := st ++ [Qs5.length]) (by rw [stRow, List.map_append]; exact H7) HNX.out)
              clear H7 HFS k6 G6
              go_wp2
              go_roundw
              case rel =>
                refine ⟨j + 1, (putB bk (bs.drop (j + 1) ++ Rr) q).1, st ++ [Qs5.length], tp ++ [.bool tb], Qs5, _, by omega, intNum, HPI.out.2, HPL.out, ?_, ?_, Lib.hid (fun e => absurd e HPI.out.1), Lib.hid (EqL.step HE.out), Lib.hid (.inr ⟨by omega, ?_⟩), HQ5, Lib.hid (G7.out.less (by simp))⟩
                · rw [if_neg (by omega), List.length_append, List.length_singleton, HSLT.out.1]
                · rw [if_neg (by omega), List.length_append, List.length_singleton, HSLT.out.2]
                · have h1 := HS0.out
                  rw [show stR (bs :: Ls.map blocksS) q = stR ((bk :: bs.drop (j + 1)) :: Ls.map blocksS) q from congrArg (fun z => stR (z :: Ls.map blocksS) q) (HD0.out HJ0.out), stR, HRR.out, runB] at h1
                  dsimp only [List.headD_cons] at h1
                  have h2 : Qs5.length = (putB bk (bs.drop (j + 1) ++ Rr) q).2 + 1 := by
                    have h3 := congrArg List.length HQ5.out
                    rw [List.length_map, stQ_some HPI.out.1, List.length_append, List.length_singleton, put_head HGB.out.1 HK0.out] at h3
                    exact h3
                  rw [h2, List.append_assoc]
                  exact h1
              case measure => simp [intOf]; omega
          · have hj0 : 0 < j := by omega
            have hk0 := hkd.2 hj0
            have e0 := rkN_n0 _ hk0
            have HNE := Lib.hid (show needB bk (bs.drop (j + 1) ++ Rr) = la by rw [need_zero hk0, HLA.out])
            rw [if_neg j0] at hsl htl
            have HSLT := Lib.hid (And.intro hsl htl)
            clear hsl htl
            have HS0 := Lib.hid (HS.out.resolve_left (fun h => j0 h.1)).2
            generalize rkN bk.kind = rk at *
            rw [HNE.out] at HFL
            clear hkd hk0 HS HJ2 HJ3
            go_upto_region 8 with (fail)
            generalize wr.alloc (.cells #[.int .i64 rk, .slice A4 n cc4, .slice A5 n5 cc5] 105) = w1 at *
            generalize wr.heap.size = B at *
            have G1 := Lib.hid hG1
            clear hG1 c0 c1 c2
            have HBC := Lib.hid (fun (W : World) (Qs : List PgL) (v : Value) (Rs : List Row) (h : ShM w w.heap.size Qs v Rs [(B, #[.int .i64 rk, .slice A4 n cc4, .slice A5 n5 cc5], 105)] W) => show W.cell? ⟨B, 0, none⟩ = some (.int .i64 rk) ∧ W.cell? ⟨B, 1, none⟩ = some (.slice A4 n cc4) ∧ W.cell? ⟨B, 2, none⟩ = some (.slice A5 n5 cc5) from
              have y := (h.mr.cell (p := (B, #[.int .i64 rk, .slice A4 n cc4, .slice A5 n5 cc5], 105)) (by simp)).1
              ⟨y 0, y 1, y 2⟩)
            obtain ⟨d0, d1, d2⟩ := HBC.out w1 _ _ _ G1.out
            go_wp2_with fail
            refine (HHD.out w1 G1.out.mr.bel).mono ?_
            rintro e w2 ⟨rfl, hb2⟩
            have G2 := Lib.hid (G1.out.below hb2)
            clear hb2 HHD G1 d0 d1 d2
            obtain ⟨d0, d1, d2⟩ := HBC.out w2 _ _ _ G2.out
            have HFC := Lib.hid (HFL.out w2 _ G2.out)
            go_wp2_with fail
            refine HFC.out.mono ?_
            rintro e w5 ⟨rfl, Qs5, v5, G5, hQ5⟩
            have G6 := Lib.hid (G5.less (Y := []) (by simp))
            have HQ5 := Lib.hid hQ5
            clear HFC G5 hQ5 d0 d1 d2 G2
            go_wp2
            go_roundw
            case rel =>
              refine ⟨j + 1, (putB bk (bs.drop (j + 1) ++ Rr) q).1, st, tp, Qs5, v5, by omega, intNum, HPI.out.2, HPL.out, by rw [if_neg (by omega)]; exact HSLT.out.1, by rw [if_neg (by omega)]; exact HSLT.out.2, Lib.hid (fun e => absurd e HPI.out.1), Lib.hid (EqL.step HE.out), Lib.hid (.inr ⟨by omega, ?_⟩), HQ5, G6⟩
              exact HS0.out
            case measure => simp [intOf]; omega
        · have hjm2 : j = m := by omega
          subst hjm2
          have hdn : bs.drop j = [] := List.drop_eq_nil_of_le (by rw [HM.out.2]; exact Nat.le_refl _)
          rw [hdn] at HE HS
          rw [if_neg (by omega)] at hsl htl
          have HS0 := Lib.hid (HS.out.resolve_left (fun h => by have := h.1; omega)).2
          go_wp2
          go_roundw
          case rel =>
            refine ⟨k + 1, q, st, tp, Qs, v, by omega, intNum, h54, by omega, hsl, htl, HQ0, Lib.hid ?_, Lib.hid ?_, HQ, HG⟩
            · rw [HLS.out, HRR.out]; exact HE.out
            · rw [HLS.out]; exact HS0.out
          case measure => simp [intOf]; omega
    · have hkN : k = NL := by omega
      subst hkN
      have hdn : xs.drop k = [] := List.drop_eq_nil_of_le (by rw [HXL.out]; exact Nat.le_refl _)
      rw [hdn] at HE HS
      have hpg : Qs.map (·.1) = pagesB ((xs.map blocksS).flatten) := by
        obtain ⟨h1, h2⟩ := HE.out
        have h1' : q.1 = TA := h1
        have h2' : q.2 = TB := h2
        rw [HQ.out]
        unfold pagesB stQ
        rw [HTT.out.1, HTT.out.2.1, h1', h2']
        by_cases hz : TB = []
        · rw [if_pos hz, if_pos hz, List.append_nil]
        · rw [if_neg hz, if_neg hz]
      have hst : st = stR (xs.map blocksS) ([], []) := by
        have h1 := HS.out
        rw [show ([] : List Scene).map blocksS = [] from rfl, stR, List.append_nil] at h1
        rw [h1, HTT.out.2.2]
      have cb := HG.out.box.1
      have HR := Lib.hid (show LdrP xs w (.returned (.tuple #[v, .slice As st.length qs, .slice At tp.length qt])) wr from ⟨Qs, v, _, _, tp, rfl, hpg, by
        rw [← hst]
        exact HG.out.mr.less (fun z hz => by cases hz)⟩)
      obtain ⟨Av, cv, rfl⟩ := HG.out.form
      clear hpg hst HE HS
      go_wp2
      go_ret3
      exact HR.out
end Go.Proofs.YtndillbimibecaaGreatDoor

