/- Texts packed: PaO, PaP, PaQ, SheA, SheS. -/
import Derived.Test.YtndillbimibecaaGreatDoorSc39
import Derived.Test.YtndillbimibecaaGreatDoorSc42
import Derived.Test.YtndillbimibecaaGreatDoorSc02
import Derived.Test.YtndillbimibecaaGreatDoorSc40
import Derived.Test.YtndillbimibecaaGreatDoorSc20
/- All blocks of a script and the numbers of the headings among them: two lists under way; script.laid, walked. -/
namespace Go.Proofs.YtndillbimibecaaGreatDoor
set_option linter.unusedVariables false
open Go.RowKit Go.Sort

abbrev BHF (w : World) (v u : Value) (wx : World) (q : Nat) : Prop := w.heap.size ≤ q ∧ q < wx.heap.size ∧ v.ownBlock ≠ some q ∧ u.ownBlock ≠ some q
structure BH (w : World) (l : List BkT) (v : Value) (hs : List Nat) (u : Value) (wx : World) : Prop where
  bel : Below w.heap.size w wx
  bo : Own bkR wx w.heap.size w.heap.size 131 l v
  hd : Own knR wx w.heap.size w.heap.size 3 hs u
  dis : Dis v u
  ln : ∀ y ∈ l, Sli strR wx (BHF w v u wx) y.1.lines y.2.1
  kd : ∀ y ∈ l, Sli knR wx (BHF w v u wx) y.1.kinds y.2.2
section
variable {w wx wy : World} {l : List BkT} {v u : Value} {hs : List Nat}
theorem BH.start (w : World) : BH w [] (.slice none 0 0) [] (.slice none 0 0) w := ⟨Below.refl _ _, Own.nil_, Own.nil_, Dis.nil_, (fun x hx => by cases hx), (fun x hx => by cases hx)⟩
theorem BH.below (h : BH w l v hs u wx) (hb : Below wx.heap.size wx wy) : BH w l v hs u wy :=
  ⟨h.bel.trans (hb.mono h.bel.size), h.bo.below hb, h.hd.below hb, h.dis, fun y hy => ((h.ln y hy).below hb (fun q hq => hq.2.1)).more fun q hq => ⟨hq.1, Nat.lt_of_lt_of_le hq.2.1 hb.size, hq.2.2⟩, fun y hy => ((h.kd y hy).below hb (fun q hq => hq.2.1)).more fun q hq => ⟨hq.1, Nat.lt_of_lt_of_le hq.2.1 hb.size, hq.2.2⟩⟩
theorem BH.alloc (h : BH w l v hs u wx) (o : Obj) : BH w l v hs u (wx.alloc o) := h.below ((Below.refl _ wx).alloc (Nat.le_refl _) o)
/-- One number more. -/
theorem BH.pushH {hs' : List Nat} {u' : Value} {g : Nat} (h : BH w l v hs u wx) (hown : Own knR wy w.heap.size w.heap.size 3 hs' u') (hg : wx.grownBy wy u.ownBlock) (hv : u'.ownBlock = some g) (hat : u.ownBlock = some g ∨ g = wx.heap.size) : BH w l v hs' u' wy := by
  have hne : ∀ q, q < wx.heap.size → u.ownBlock ≠ some q → u'.ownBlock ≠ some q := fun q hq hn e => by
    rw [hv] at e
    injection e with e
    rcases hat with hat | hat
    · exact hn (by rw [hat, e])
    · omega
  have key : ∀ {α : Type} {R : Rep α} (k : List α) z, Sli R wx (BHF w v u wx) k z → Sli R wy (BHF w v u' wy) k z := fun k z hs2 =>
    (hs2.keep fun q hq => hg.block q hq.2.1 fun e => hq.2.2.2 e.symm).more fun q hq => ⟨hq.1, Nat.lt_of_lt_of_le hq.2.1 hg.size, hq.2.2.1, hne q hq.2.1 hq.2.2.2⟩
  exact ⟨h.bel.grown hg h.bel.size (fun q hq => (h.hd.block q hq).1), Own.keepF (n := 4) (enc := bkCs) (hn := fun _ => rfl) h.bo (fun q hq => hg.block q (h.bo.block q hq).2 (fun e => h.dis q hq e.symm)) hg.size, hown, fun q hq hq2 => hne q (h.bo.block q hq).2 (fun e => h.dis q hq e) hq2, fun y hy => key _ _ (h.ln y hy), fun y hy => key _ _ (h.kd y hy)⟩
/-- A scene's blocks behind the others. -/
theorem BH.more {l2 : List BkT} {v' : Value} {g : Nat} (h : BH w l v hs u wx) (hown : Own bkR wy w.heap.size w.heap.size 131 (l ++ l2) v') (hg : wx.grownBy wy v.ownBlock) (hv : v'.ownBlock = some g) (hat : v.ownBlock = some g ∨ g = wx.heap.size)
    (h1 : ∀ y ∈ l2, Sli strR wx (BHF w v u wx) y.1.lines y.2.1) (h2 : ∀ y ∈ l2, Sli knR wx (BHF w v u wx) y.1.kinds y.2.2) : BH w (l ++ l2) v' hs u wy := by
  have hne : ∀ q, q < wx.heap.size → v.ownBlock ≠ some q → v'.ownBlock ≠ some q := fun q hq hn e => by
    rw [hv] at e
    injection e with e
    rcases hat with hat | hat
    · exact hn (by rw [hat, e])
    · omega
  have key : ∀ {α : Type} {R : Rep α} (k : List α) z, Sli R wx (BHF w v u wx) k z → Sli R wy (BHF w v' u wy) k z := fun k z hs2 =>
    (hs2.keep fun q hq => hg.block q hq.2.1 fun e => hq.2.2.1 e.symm).more fun q hq => ⟨hq.1, Nat.lt_of_lt_of_le hq.2.1 hg.size, hne q hq.2.1 hq.2.2.1, hq.2.2.2⟩
  refine ⟨h.bel.grown hg h.bel.size (fun q hq => (h.bo.block q hq).1), hown, Own.keepF (n := 1) (enc := fun k : Nat => [.int .i64 (k : Int)]) (hn := fun _ => rfl) h.hd (fun q hq => hg.block q (h.hd.block q hq).2 (fun e => h.dis q e.symm hq)) hg.size, fun q hq hq2 => hne q (h.hd.block q hq2).2 (fun e => h.dis q e hq2) hq, fun x hx => ?_, fun x hx => ?_⟩
  · rcases List.mem_append.1 hx with hx | hx
    · exact key _ _ (h.ln x hx)
    · exact key _ _ (h1 x hx)
  · rcases List.mem_append.1 hx with hx | hx
    · exact key _ _ (h.kd x hx)
    · exact key _ _ (h2 x hx)
theorem BH.fresh {α : Type} {R : Rep α} {k : List α} {z : Value} (h : BH w l v hs u wx) (hz : wx.heap.size ≤ wy.heap.size) (hs2 : Sli R wy (fun q => wx.heap.size ≤ q ∧ q < wy.heap.size) k z) : Sli R wy (BHF w v u wy) k z :=
  hs2.more fun q hq => ⟨Nat.le_trans h.bel.size hq.1, hq.2, fun e => by have := (h.bo.block q e).2; omega, fun e => by have := (h.hd.block q e).2; omega⟩
theorem BH.bkl (h : BH w l v hs u wx) : BkL wx (fun q => w.heap.size ≤ q ∧ q < wx.heap.size) l v :=
  ⟨h.bo.sli (fun b h1 h2 => ⟨h1, h2⟩) (fun g hg => h.bo.block g hg), fun y hy => (h.ln y hy).more fun q hq => ⟨hq.1, hq.2.1⟩, fun y hy => (h.kd y hy).more fun q hq => ⟨hq.1, hq.2.1⟩, fun q hq => hq.2⟩
theorem own_sl {a b : Nat} {T : TypeId} {l : List Value} (h : Own valR wx a b T l v) : ∃ A c, v = .slice A l.length c := by
  rcases h.form with ⟨rfl, rfl⟩ | ⟨g, c, rfl, _⟩
  · exact ⟨_, _, rfl⟩
  · exact ⟨_, _, rfl⟩
end
theorem headsAt_snoc (a : List (List Blk)) (x : List Blk) (k : Nat) : headsAt (a ++ [x]) k = headsAt a k ++ [k + a.flatten.length] := by
  induction a generalizing k with
  | nil => simp [headsAt]
  | cons y t ih =>
    rw [List.cons_append, headsAt, headsAt, ih]
    simp [Nat.add_assoc]
/-- Bounds of what is laid out. -/
theorem head_few {x : Scene} (h : LnOk x) : (wrapT (headS x) 60).length ≤ 200 := by
  have h1 := wrapT_few (headS x) (wd := 60) (by decide)
  have h2 := h.head.1
  omega
theorem blkPara_few {l : List Blk} {p : Para} {m : Nat} (h : ∀ b ∈ l, b.lines.length ≤ m ∧ b.name.size ≤ 2000) (hp : p.text.size ≤ 2000) (h1 : 1 ≤ m) : (blkPara l p).length ≤ l.length + 1 ∧ ∀ b ∈ blkPara l p, b.lines.length ≤ m + 136 ∧ b.name.size ≤ 2000 := by
  have w60 := wrapT_few p.text (wd := 60) (by decide)
  have w35 := wrapT_few p.text (wd := 35) (by decide)
  have w30 := wrapT_few (⟨#[40]⟩ ++ p.text ++ ⟨#[41]⟩) (wd := 30) (by decide)
  rw [par_sz] at w30
  have hpush : ∀ b : Blk, b.lines.length ≤ m + 136 → b.name.size ≤ 2000 → (l ++ [b]).length ≤ l.length + 1 ∧ ∀ c ∈ l ++ [b], c.lines.length ≤ m + 136 ∧ c.name.size ≤ 2000 := fun b hb hb2 => ⟨by simp, fun c hc => by
    rcases List.mem_append.1 hc with hc | hc
    · have := h c hc; exact ⟨by omega, this.2⟩
    · rw [List.mem_singleton.1 hc]; exact ⟨hb, hb2⟩⟩
  have hput : ∀ kd at_ (ls : List ByteArray), ls.length ≤ 136 → (l.modify (l.length - 1) fun b => b.put kd at_ ls).length ≤ l.length + 1 ∧ ∀ c ∈ l.modify (l.length - 1) (fun b => b.put kd at_ ls), c.lines.length ≤ m + 136 ∧ c.name.size ≤ 2000 := fun kd at_ ls hls => ⟨by rw [List.length_modify]; omega, fun c hc => by
    obtain ⟨j, hj⟩ := List.mem_iff_getElem?.1 hc
    rw [List.getElem?_modify] at hj
    cases hz : l[j]? with
    | none => rw [hz] at hj; cases hj
    | some y =>
      have hy := h y (List.mem_iff_getElem?.2 ⟨j, hz⟩)
      rw [hz] at hj
      by_cases e : l.length - 1 = j
      · simp [e] at hj
        subst hj
        refine ⟨?_, hy.2⟩
        show (y.lines ++ ls.map (indS at_)).length ≤ _
        rw [List.length_append, List.length_map]
        omega
      · simp [e] at hj
        subst hj
        exact ⟨by omega, hy.2⟩⟩
  unfold blkPara
  split
  · exact hpush _ (by show (wrapT p.text 60).length ≤ _; omega) (by show (0 : Nat) ≤ _; omega)
  · split
    · exact hpush _ (by show 1 ≤ _; omega) (by show (0 : Nat) ≤ _; omega)
    · split
      · exact hpush _ (by show 1 ≤ _; omega) hp
      · split
        · exact hput _ _ _ (by omega)
        · split
          · exact hput _ _ _ (by omega)
          · exact ⟨by omega, fun c hc => by have := h c hc; exact ⟨by omega, this.2⟩⟩
theorem fold_few : ∀ (ps : List Para) (l : List Blk) (m : Nat), (∀ p ∈ ps, p.text.size ≤ 2000) → 1 ≤ m → (∀ b ∈ l, b.lines.length ≤ m ∧ b.name.size ≤ 2000) → (ps.foldl blkPara l).length ≤ l.length + ps.length ∧ ∀ b ∈ ps.foldl blkPara l, b.lines.length ≤ m + 136 * ps.length ∧ b.name.size ≤ 2000
  | [], l, m, _, _, h => ⟨Nat.le_refl _, fun b hb => by have := h b hb; exact ⟨by simpa using this.1, this.2⟩⟩
  | p :: r, l, m, hp, h1, h => by
    obtain ⟨a, b⟩ := blkPara_few h (hp p (by simp)) h1
    obtain ⟨c, d⟩ := fold_few r _ (m + 136) (fun q hq => hp q (by simp [hq])) (by omega) b
    rw [List.foldl_cons, List.length_cons]
    exact ⟨by omega, fun x hx => by have := d x hx; exact ⟨by omega, this.2⟩⟩
theorem blocks_few {x : Scene} (h : LnOk x) (hn : x.paras.length ≤ 61) : (blocksS x).length ≤ 62 ∧ ∀ b ∈ blocksS x, b.lines.length ≤ 8500 ∧ b.name.size ≤ 2000 := by
  have hh := head_few h
  obtain ⟨a, b⟩ := fold_few x.paras [blkWrap 0 (headS x)] 200 (fun p hp => (h.para hp).1) (by omega) (fun c hc => by
    rw [List.mem_singleton.1 hc]
    exact ⟨hh, by show (0 : Nat) ≤ _; omega⟩)
  unfold blocksS
  exact ⟨by rw [List.length_singleton] at a; omega, fun c hc => by have := b c hc; exact ⟨by omega, this.2⟩⟩
theorem flat_few : ∀ (xs : List Scene), (∀ x ∈ xs, LnOk x) → (∀ x ∈ xs, x.paras.length ≤ 61) → ((xs.map blocksS).flatten).length ≤ xs.length * 62 ∧ ∀ b ∈ (xs.map blocksS).flatten, GoodB b ∧ BkOk b ∧ b.lines.length ≤ 8500
  | [], _, _ => ⟨Nat.le_refl _, fun b hb => by cases hb⟩
  | x :: r, h1, h2 => by
    obtain ⟨a, b⟩ := flat_few r (fun y hy => h1 y (by simp [hy])) (fun y hy => h2 y (by simp [hy]))
    obtain ⟨c, d⟩ := blocks_few (h1 x (by simp)) (h2 x (by simp))
    rw [List.map_cons, List.flatten_cons, List.length_append, List.length_cons]
    refine ⟨by omega, fun y hy => ?_⟩
    rcases List.mem_append.1 hy with hy | hy
    · have hg := blocks_good (h1 x (by simp)) y hy
      have hd := d y hy
      exact ⟨hg, ⟨by omega, hg.ks, by omega⟩, hd.1⟩
    · exact b y hy
def LaidP (xs : List Scene) (w : World) (e : Ending) (w' : World) : Prop := ∃ (Ps : List (List ByteArray × Value)) (A1 A2 A3 A4 : Option Addr) (n2 c1 c2 c3 c4 : Nat), e = .returned (.tuple #[.agg #[.slice A1 Ps.length c1, .slice A2 n2 c2, .slice A3 ((xs.map blocksS).flatten).length c3], .slice A4 xs.length c4]) ∧ Ps.map (·.1) = pagesB ((xs.map blocksS).flatten) ∧ Below w.heap.size w w' ∧
  Sli valR w' (fun q => w.heap.size ≤ q ∧ q < w'.heap.size) (Ps.map (·.2)) (.slice A1 Ps.length c1) ∧ (∀ q ∈ Ps, Sli strR w' (fun q => w.heap.size ≤ q ∧ q < w'.heap.size) q.1 q.2) ∧
  Sli knR w' (fun q => w.heap.size ≤ q ∧ q < w'.heap.size) (layB ((xs.map blocksS).flatten) [] [] []).2.2 (.slice A3 ((xs.map blocksS).flatten).length c3) ∧ Sli knR w' (fun q => w.heap.size ≤ q ∧ q < w'.heap.size) (headsAt (xs.map blocksS) 0) (.slice A4 xs.length c4)
theorem headsAt_len (L : List (List Blk)) (k : Nat) : (headsAt L k).length = L.length := by
  induction L generalizing k with
  | nil => rfl
  | cons a t ih => rw [headsAt, List.length_cons, List.length_cons, ih]
theorem layB_len (l : List Blk) : (layB l [] [] []).2.2.length = l.length := by
  have h := (layB_run l [] ([], [])).2.2
  rw [List.append_nil] at h
  have h2 : (layB [] (runB l [] ([], [])).1.1 (runB l [] ([], [])).1.2 []).2.2 = [] := rfl
  rw [h2, List.append_nil] at h
  exact (congrArg List.length h).trans (runB_len l [] ([], []))
end Go.Proofs.YtndillbimibecaaGreatDoor

/- script.laid, walked. -/
namespace Go.Proofs.YtndillbimibecaaGreatDoor
set_option linter.unusedVariables false
open Go.RowKit Go.Sort

theorem bk_one {y : BkT} {A1 A2 : Option Addr} {n1 c1 n2 c2 : Nat} (e1 : y.2.1 = .slice A1 n1 c1) (e2 : y.2.2 = .slice A2 n2 c2) : ∀ u ∈ bkCs y, u.oneCell' = true := by
  intro u hu
  simp only [bkCs, e1, e2, List.mem_cons, List.not_mem_nil, or_false] at hu
  rcases hu with rfl | rfl | rfl | rfl <;> rfl
theorem BH.form {w wx : World} {l : List BkT} {v u : Value} {hs : List Nat} (h : BH w l v hs u wx) : (∃ A c, v = .slice A l.length c) ∧ ∃ A c, u = .slice A hs.length c := by
  obtain ⟨A, c, e, _⟩ := h.bkl.sli.form
  obtain ⟨A', c', e', _⟩ := (Own.sliF (enc := fun k : Nat => [.int .i64 (k : Int)]) (hn := fun _ => rfl) (F := fun _ => True) h.hd (fun _ _ => trivial)).form
  exact ⟨⟨A, c, e⟩, ⟨A', c', e'⟩⟩
def flK (ls : List (Scene × Value)) (k : Nat) : List Blk := (((ls.take k).map (·.1)).map blocksS).flatten
def hdK (ls : List (Scene × Value)) (k : Nat) : List Nat := headsAt (((ls.take k).map (·.1)).map blocksS) 0
theorem flK_step {ls : List (Scene × Value)} {k : Nat} (hk : k < ls.length) : flK ls (k + 1) = flK ls k ++ blocksS ls[k].1 := by
  unfold flK
  rw [List.take_succ_eq_append_getElem hk, List.map_append, List.map_append, List.flatten_append, List.map_cons, List.map_cons, List.map_nil, List.map_nil, List.flatten_cons, List.flatten_nil, List.append_nil]
theorem hdK_step {ls : List (Scene × Value)} {k : Nat} (hk : k < ls.length) : hdK ls (k + 1) = hdK ls k ++ [(flK ls k).length] := by
  unfold hdK flK
  rw [List.take_succ_eq_append_getElem hk, List.map_append, List.map_append, List.map_cons, List.map_cons, List.map_nil, List.map_nil, headsAt_snoc, Nat.zero_add]
theorem hdK_len {ls : List (Scene × Value)} {k : Nat} (hk : k ≤ ls.length) : (hdK ls k).length = k := by
  unfold hdK
  rw [headsAt_len]
  simp [hk]
set_option maxRecDepth 100000 in
set_option maxHeartbeats 8000000 in
theorem laid_c {F : Nat → Prop} (t : ByteArray) (ls : List (Scene × Value)) (v : Value) (w : World) (h : ScL w F t ls v) (hok : ∀ y ∈ ls, LnOk y.1) (hln : ls.length ≤ 91) (hpn : ∀ y ∈ ls, y.1.paras.length ≤ 61) :
    Calls Tryz.prog 19 #[.agg #[.string t, v]] w (LaidP (ls.map (·.1)) w) := by
  obtain ⟨i0, hi0, hz0, hz1, hz2⟩ := info_parts (show (Tryz.prog.info? 131).map (fun i => (i.zero, i.size, i.bytes)) = some (some (.agg #[.int .i64 0, .slice none 0 0, .slice none 0 0, .string ⟨#[]⟩]), 4, 72) by kernel_rfl)
  obtain ⟨i1, hi1, hy0, hy1, hy2⟩ := info_parts (show (Tryz.prog.info? 3).map (fun i => (i.zero, i.size, i.bytes)) = some (some (.int .i64 0), 1, 8) by kernel_rfl)
  obtain ⟨A, c, rfl, hlc, hcm⟩ := h.sli.form
  obtain ⟨L, hL⟩ : ∃ L, ls.length = L := ⟨_, rfl⟩
  have HL := Lib.hid hL
  have HFF := Lib.hid (fun k => flat_few ((ls.take k).map (·.1)) (fun x hx => by
    obtain ⟨y, hy, rfl⟩ := List.mem_map.1 hx
    exact hok y (List.mem_of_mem_take hy)) (fun x hx => by
    obtain ⟨y, hy, rfl⟩ := List.mem_map.1 hx
    exact hpn y (List.mem_of_mem_take hy)))
  have HB0 : Below w.heap.size w ((w.alloc (.cells #[.string t, .slice A ls.length c] 28)).alloc (.cells #[.slice none 0 0, .slice none 0 0, .slice none 0 0] 52)) :=
    ((Below.refl _ w).alloc (Nat.le_refl _) _).alloc (by simp) _
  have HSC := Lib.hid (fun (W : World) (hb : Below w.heap.size w W) => h.below hb)
  have HOK := Lib.hid hok
  have HPN := Lib.hid hpn
  have HZ0 : ((w.alloc (.cells #[.string t, .slice A ls.length c] 28)).alloc (.cells #[.slice none 0 0, .slice none 0 0, .slice none 0 0] 52)).heap.size = w.heap.size + 2 := by simp
  have HC0 := str_cells ((((Below.refl _ _).alloc (Nat.le_refl _) (.cells #[.slice none 0 0, .slice none 0 0, .slice none 0 0] 52)).block w.heap.size (by simp)).trans (heap_alloc_new w (.cells #[.string t, .slice A ls.length c] 28)))
  have HX0 := heap_alloc_new (w.alloc (.cells #[.string t, .slice A ls.length c] 28)) (.cells #[.slice none 0 0, .slice none 0 0, .slice none 0 0] 52)
  rw [show (w.alloc (.cells #[.string t, .slice A ls.length c] 28)).heap.size = w.heap.size + 1 by simp] at HX0
  rw [hL] at HB0 HZ0 HC0 HX0 hln hlc HSC ⊢
  clear h hok hpn hL
  go_enter Tryz.func19, Tryz.ntmps19
  go_upto_region 1 with (fail)
  generalize hW : (w.alloc (.cells #[.string t, .slice A L c] 28)).alloc (.cells #[.slice none 0 0, .slice none 0 0, .slice none 0 0] 52) = W0 at *
  have d1 : W0.cell? ⟨w.heap.size, 1, none⟩ = some (.slice A L c) := HC0.1 1
  have HB := Lib.hid HB0
  have HX := Lib.hid HX0
  have hz0w : W0.heap.size = w.heap.size + 2 := HZ0
  have HZW := Lib.hid hz0w
  have hzw : w.heap.size < W0.heap.size := by omega
  clear hW HC0 HB0 HX0 HZ0 hz0w
  go_wp2
  go_loopw [4, 5, 11] (fun v u i wr => ∃ (k : Nat) (l : List BkT), k ≤ L ∧ i = .int .i64 k ∧ Hid (l.map (·.1) = flK ls k) ∧ Hid (BH W0 l v (hdK ls k) u wr)) (fun _ _ i _ => L - (intOf i).toNat)
  case atStart => exact ⟨0, [], Nat.zero_le _, rfl, rfl, BH.start W0⟩
  case round =>
    clear d1
    obtain ⟨k, l, hk, rfl, HK, HG⟩ := hrel
    obtain ⟨⟨A3, q3, rfl⟩, ⟨A5, q5, rfl⟩⟩ := HG.out.form
    have hfl := (HFF.out k).1
    rw [List.length_map, List.length_take, Nat.min_eq_left (by rw [HL.out]; omega)] at hfl
    have hml : l.length = (flK ls k).length := by rw [← HK.out, List.length_map]
    have hlb : l.length ≤ 5642 := by rw [hml]; exact Nat.le_trans hfl (by omega)
    have hhl : (hdK ls k).length = k := hdK_len (by rw [HL.out]; exact hk)
    by_cases hlt : k < L
    · have hkl : k < ls.length := by rw [HL.out]; exact hlt
      have HBr := Lib.hid (HB.out.trans (HG.out.bel.mono (by omega)))
      have hHr := HSC.out _ HBr.out
      obtain ⟨b, off, rfl, hfb, c0, c1, c2, c3, c4⟩ := scAt hHr.sli k hkl
      have hsp := (HSC.out w (Below.refl _ _)).par _ (List.getElem_mem hkl)
      obtain ⟨A4, cc4, h4, _, _⟩ := hsp.form
      rw [h4] at c4
      rw [h4] at hsp
      have HPA := Lib.hid (fun (W : World) (hb : Below w.heap.size w W) => show Sli paraR W F (ls[k]'hkl).1.paras (.slice A4 (ls[k]'hkl).1.paras.length cc4) ∧ (∀ q, F q → q < W.heap.size) from ⟨hsp.below hb (HSC.out w (Below.refl _ _)).lt, (HSC.out W hb).lt⟩)
      have HOx := Lib.hid (And.intro (HOK.out _ (List.getElem_mem hkl)) (HPN.out _ (List.getElem_mem hkl)))
      have HF2 := Lib.hid (flK_step hkl)
      have HH2 := Lib.hid (show hdK ls (k + 1) = hdK ls k ++ [l.length] by rw [hdK_step hkl, hml])
      generalize (ls[k]'hkl).1 = x at *
      generalize hdK ls k = hs at *
      have hG6 := HG.out.alloc (.cells #[.string x.no, .int .i64 x.place, .string x.set, .int .i64 x.time, .slice A4 x.paras.length cc4] 49)
      have hx6 := heap_alloc_new wr (.cells #[.string x.no, .int .i64 x.place, .string x.set, .int .i64 x.time, .slice A4 x.paras.length cc4] 49)
      have hxu : ∀ q, (Value.slice A5 hs.length q5).ownBlock = some q → q < wr.heap.size := fun q hq => (HG.out.hd.block q hq).2
      have hzr := HG.out.bel.size
      have hwz : wr.heap.size < (wr.alloc (.cells #[.string x.no, .int .i64 x.place, .string x.set, .int .i64 x.time, .slice A4 x.paras.length cc4] 49)).heap.size := by simp
      clear hkl h4 hsp hHr hfl hml HG
      go_upto_region 6 with (fail)
      generalize hW : wr.alloc (.cells #[.string x.no, .int .i64 x.place, .string x.set, .int .i64 x.time, .slice A4 x.paras.length cc4] 49) = w6 at *
      generalize wr.heap.size = X at *
      have GA := Lib.hid (hG6.alloc (.cells #[.int .i64 (l.length : Int)] 3))
      have hx7 := (Below.heap_alloc w6 (.cells #[.int .i64 (l.length : Int)] 3) X hwz).trans hx6
      have hw7 : w6.heap.size < (w6.alloc (.cells #[.int .i64 (l.length : Int)] 3)).heap.size := by simp
      have HX7 := Lib.hid (And.intro hx7 (And.intro hxu (And.intro hwz hw7)))
      clear hW hG6 hx6 hx7 c0 c1 c2 c3 c4 hxu hw7
      go_upto_region 7 with (at_builtin; (refine wpList_pushB (R := knR) rfl _ _ _ rfl W0.heap.size W0.heap.size 3 i1 _ 8 Tryz.underlying22 hi1 hy0 hy1 hy2 rfl (by decide) _ (.slice A5 hs.length q5) hs rfl GA.out.hd l.length _ rfl (oneC rfl) w6.heap.size _ _ (heap_alloc_new w6 _) rfl (by unfold maxLen; omega) (by omega) (by simp; omega) ?_); intro g cap8 w8 hown8 hg8 hat8 hlt8)
      have hG8 := GA.out.pushH hown8 hg8 rfl hat8
      have hx8 := (hg8.block X (by have := HX7.out; omega) (fun e => by have := HX7.out.2.1 X e.symm; omega)).trans HX7.out.1
      have HB8 := Lib.hid (HB.out.trans (hG8.bel.mono (by omega)))
      obtain ⟨e0, e1, e2, e3, e4⟩ := sc_cells (str_cells hx8)
      have HBL := Lib.hid (Blocks_c x (.slice A4 x.paras.length cc4) w8 (HPA.out w8 HB8.out).1 (HPA.out w8 HB8.out).2 HOx.out.1)
      have G8 := Lib.hid hG8
      clear hown8 hg8 hat8 hG8 hx8 GA HX7
      have HFW := Lib.hid (blocks_few HOx.out.1 HOx.out.2)
      clear HOx
      generalize x.paras.length = pl at *
      go_wp2_with fail
      refine HBL.out.mono ?_
      rintro e w9 ⟨l2, v2, rfl, hl2, hN2⟩
      obtain ⟨s1, s2, s3⟩ := hN2.parts
      obtain ⟨A2, c2, rfl, _, _⟩ := s1.form
      have hm2 : l2.length = (blocksS x).length := by rw [← hl2, List.length_map]
      have hm0 : 0 < l2.length := by
        obtain ⟨a, b, e, _⟩ := blocks_shape x
        rw [hm2, e]
        simp
      have hm62 : l2.length ≤ 62 := by rw [hm2]; exact HFW.out.1
      have G9 := Lib.hid (G8.out.below hN2.bo.bel)
      have HS := Lib.hid s1
      have HO1 := Lib.hid (show ∀ y ∈ l2, ∀ u ∈ bkCs y, u.oneCell' = true from fun y hy => by
        obtain ⟨_, _, e1, _⟩ := (s2 y hy).form
        obtain ⟨_, _, e2, _⟩ := (s3 y hy).form
        exact bk_one e1 e2)
      have HP2 := Lib.hid (And.intro (fun y hy => G8.out.fresh hN2.bo.bel.size (s2 y hy)) (fun y hy => G8.out.fresh hN2.bo.bel.size (s3 y hy)))
      have HL2 := Lib.hid (show (l ++ l2).map (·.1) = flK ls (k + 1) by rw [List.map_append, HK.out, hl2, HF2.out])
      have hzw9 := G9.out.bel.size
      clear hN2 s1 s2 s3 hl2 hm2 HBL G8 e0 e1 e2 e3 e4
      go_wp2_with (at_builtin; (refine wpList_appLm (n := 4) (enc := bkCs) (hn := fun _ => rfl) rfl _ _ _ rfl W0.heap.size W0.heap.size 131 i0 _ 72 Tryz.underlying86 hi0 hz0 hz1 hz2 rfl (by decide) _ (.slice A3 l.length q3) l rfl G9.out.bo l2 HO1.out A2 l2.length c2 rfl HS.out rfl hm0 (by unfold maxLen; omega) (by omega) hzw9 ?_); intro g2 capA wA hownA hgA hatA hltA)
      go_roundw
      case rel => exact ⟨k + 1, l ++ l2, by omega, intNum, HL2, Lib.hid (by
        have h := G9.out.more hownA hgA rfl hatA HP2.out.1 HP2.out.2
        rw [hhl] at h
        rw [HH2.out]
        exact h)⟩
      case measure => simp [intOf]; omega
    · have hkL : k = L := by omega
      subst hkL
      have hall : flK ls k = ((ls.map (·.1)).map blocksS).flatten := by unfold flK; rw [List.take_of_length_le (by rw [HL.out]; omega)]
      have hhd : hdK ls k = headsAt ((ls.map (·.1)).map blocksS) 0 := by unfold hdK; rw [List.take_of_length_le (by rw [HL.out]; omega)]
      have hff := (HFF.out k).2
      change ∀ b ∈ flK ls k, _ at hff
      have hmem : ∀ y ∈ l, y.1 ∈ flK ls k := fun y hy => by rw [← HK.out]; exact List.mem_map_of_mem hy
      have HLA := Lib.hid (Lay_c l A3 q3 8500 wr HG.out.bkl (fun y hy => (hff _ (hmem y hy)).1) (fun y hy => (hff _ (hmem y hy)).2.1) (fun y hy => (hff _ (hmem y hy)).2.2) (by decide) (Nat.le_trans (Nat.mul_le_mul_right _ hlb) (by decide)))
      have HLL := Lib.hid (show l.map (·.1) = ((ls.map (·.1)).map blocksS).flatten by rw [HK.out, hall])
      have HML := Lib.hid (show (((ls.map (·.1)).map blocksS).flatten).length = l.length by rw [← HLL.out, List.length_map])
      have HHD := Lib.hid (show BH W0 l (.slice A3 l.length q3) (headsAt ((ls.map (·.1)).map blocksS) 0) (.slice A5 k q5) wr by
        have h := HG.out
        rw [hhl, hhd] at h
        exact h)
      rw [hhl]
      clear hall hhd hff hmem hml hfl hhl HG
      go_wp2_with fail
      refine HLA.out.mono ?_
      rintro e w5 ⟨Ps, pgV, fV, sV, rfl, hPs, ⟨A8, n8, c8, rfl⟩, hMR⟩
      obtain ⟨A7, c7, e7⟩ := own_sl (hMR.own (55, Ps.map (·.2), pgV) (by simp))
      obtain ⟨A9, c9, e9⟩ := own_sl (hMR.own (3, (layB (l.map (·.1)) [] [] []).2.2.map (fun k : Nat => Value.int .i64 (k : Int)), sV) (by simp))
      dsimp only at e7 e9
      rw [List.length_map] at e7 e9
      rw [layB_len, HLL.out] at e9
      obtain ⟨n3, hn3⟩ : ∃ n3, (((ls.map (·.1)).map blocksS).flatten).length = n3 := ⟨_, rfl⟩
      have HN3 := Lib.hid hn3
      rw [hn3] at e9
      clear hn3
      subst e7
      subst e9
      have hzr := HHD.out.bel.size
      have hz5 := hMR.size
      have hx5 := ((hMR.bel.block (w.heap.size + 1) (by have := HZW.out; omega)).trans ((HHD.out.bel.block (w.heap.size + 1) (by have := HZW.out; omega)).trans HX.out))
      obtain ⟨gx, fx⟩ := str_cells hx5
      have z0 : w5.cell? ⟨w.heap.size + 1, 0, none⟩ = some (.slice none 0 0) := gx 0
      have z1 : w5.cell? ⟨w.heap.size + 1, 1, none⟩ = some (.slice none 0 0) := gx 1
      have z2 : w5.cell? ⟨w.heap.size + 1, 2, none⟩ = some (.slice none 0 0) := gx 2
      have y0 : w5.frozen? ⟨w.heap.size + 1, 0, none⟩ = false := fx 0
      have y1 : w5.frozen? ⟨w.heap.size + 1, 1, none⟩ = false := fx 1
      have y2 : w5.frozen? ⟨w.heap.size + 1, 2, none⟩ = false := fx 2
      have hb5 := HB.out.trans ((HHD.out.bel.trans (hMR.bel.mono hzr)).mono (by have := HZW.out; omega))
      have HB6 := Lib.hid (((belSet (belSet (belSet hb5 (p := ⟨w.heap.size + 1, 0, none⟩) (by show w.heap.size ≤ w.heap.size + 1; omega) (.slice A7 Ps.length c7)) (p := ⟨w.heap.size + 1, 1, none⟩) (by show w.heap.size ≤ w.heap.size + 1; omega) (.slice A8 n8 c8)) (p := ⟨w.heap.size + 1, 2, none⟩) (by show w.heap.size ≤ w.heap.size + 1; omega) (.slice A9 n3 c9))))
      have hwz := HZW.out
      have HKP := Lib.hid (show ∀ (α : Type) (R : Rep α) (m : List α) (u : Value), Sli R w5 (fun q => W0.heap.size ≤ q ∧ q < w5.heap.size) m u → Sli R (((w5.setCell ⟨w.heap.size + 1, 0, none⟩ (.slice A7 Ps.length c7)).setCell ⟨w.heap.size + 1, 1, none⟩ (.slice A8 n8 c8)).setCell ⟨w.heap.size + 1, 2, none⟩ (.slice A9 n3 c9)) (fun q => w.heap.size ≤ q ∧ q < (((w5.setCell ⟨w.heap.size + 1, 0, none⟩ (.slice A7 Ps.length c7)).setCell ⟨w.heap.size + 1, 1, none⟩ (.slice A8 n8 c8)).setCell ⟨w.heap.size + 1, 2, none⟩ (.slice A9 n3 c9)).heap.size) m u from fun α R m u hs =>
        (((hs.setCell _ (p := ⟨w.heap.size + 1, 0, none⟩) (fun hF => by have h1 : W0.heap.size ≤ w.heap.size + 1 := hF.1; omega)).setCell _ (p := ⟨w.heap.size + 1, 1, none⟩) (fun hF => by have h1 : W0.heap.size ≤ w.heap.size + 1 := hF.1; omega)).setCell _ (p := ⟨w.heap.size + 1, 2, none⟩) (fun hF => by have h1 : W0.heap.size ≤ w.heap.size + 1 := hF.1; omega)).more fun q hq => ⟨by omega, by simpa [World.setCell] using hq.2⟩)
      have HR1 := Lib.hid ((Own.sliF (enc := fun v : Value => [v]) (hn := fun _ => rfl) (hMR.own (55, Ps.map (·.2), .slice A7 Ps.length c7) (by simp)) (F := fun q => W0.heap.size ≤ q ∧ q < w5.heap.size) (fun g hg => by have := (hMR.own (55, Ps.map (·.2), .slice A7 Ps.length c7) (by simp)).block g hg; exact ⟨by omega, this.2⟩)))
      have HR2 := Lib.hid (show ∀ q ∈ Ps, Sli strR w5 (fun q => W0.heap.size ≤ q ∧ q < w5.heap.size) q.1 q.2 from fun q hq => by
        have hr := hMR.own (9, q.1.map Value.string, q.2) (by simp only [List.mem_cons, List.mem_map]; exact .inr (.inr ⟨q, hq, rfl⟩))
        have hs := Own.strs hr
        exact hs.sliF (enc := fun x : ByteArray => [.string x]) (hn := fun _ => rfl) (fun g hg => by have := hs.block g hg; exact ⟨by omega, this.2⟩))
      have HR3 := Lib.hid (show Sli knR w5 (fun q => W0.heap.size ≤ q ∧ q < w5.heap.size) (layB (l.map (·.1)) [] [] []).2.2 (.slice A9 n3 c9) from by
        have hr := hMR.own (3, (layB (l.map (·.1)) [] [] []).2.2.map (fun k : Nat => Value.int .i64 (k : Int)), .slice A9 n3 c9) (by simp)
        have hq : Own knR w5 wr.heap.size wr.heap.size 3 (layB (l.map (·.1)) [] [] []).2.2 (.slice A9 n3 c9) := Own.recode hr (by simp) fun i x x' hx hx' => by rw [List.getElem?_map, hx'] at hx; cases hx; rfl
        exact hq.sliF (enc := fun k : Nat => [.int .i64 (k : Int)]) (hn := fun _ => rfl) (fun g hg => by have := hq.block g hg; exact ⟨by omega, this.2⟩))
      have HR4 := Lib.hid (show Sli knR w5 (fun q => W0.heap.size ≤ q ∧ q < w5.heap.size) (headsAt ((ls.map (·.1)).map blocksS) 0) (.slice A5 k q5) from by
        have hq := HHD.out.hd.below hMR.bel
        exact hq.sliF (enc := fun k : Nat => [.int .i64 (k : Int)]) (hn := fun _ => rfl) (fun g hg => by have := hq.block g hg; exact this))
      have HPS := Lib.hid hPs
      clear hMR hx5 gx fx hb5 hPs
      go_wp2
      refine ⟨rfl, .tuple #[.agg #[.slice A7 Ps.length c7, .slice A8 n8 c8, .slice A9 n3 c9], .slice A5 k q5], (by rw [results_cell_tmp rfl]; go_simp), ?_⟩
      unfold LaidP
      rw [HN3.out]
      refine ⟨Ps, A7, A8, A9, A5, n8, c7, c8, c9, q5, ?_, ?_, HB6.out, HKP.out _ _ _ _ HR1.out, fun q hq => HKP.out _ _ _ _ (HR2.out q hq), ?_, ?_⟩
      · rw [List.length_map, HL.out]
      · rw [HPS.out, HLL.out]
      · rw [← HLL.out]
        exact HKP.out _ _ _ _ HR3.out
      · rw [List.length_map, HL.out]
        exact HKP.out _ _ _ _ HR4.out
end Go.Proofs.YtndillbimibecaaGreatDoor

/- script.Layout and script.Starts, walked. -/
namespace Go.Proofs.YtndillbimibecaaGreatDoor
set_option linter.unusedVariables false
open Go.RowKit Go.Sort

theorem fillB_len (b : Blk) : ∀ (m f : Nat) (P : List (List ByteArray)) (pg : List ByteArray), (fillB b m f P pg).1.length ≤ P.length + m
  | 0, _, _, _ => Nat.le_refl _
  | m + 1, f, P, pg => by
    unfold fillB
    split
    · show P.length ≤ _; omega
    · have := fillB_len b m (stopB b f (54 - pg.length)) (P ++ [pg ++ (b.lines.drop f).take (stopB b f (54 - pg.length) - f) ++ (if b.kind = 3 then [moreS] else [])]) (if b.kind = 3 then [contS b.name] else [])
      rw [List.length_append, List.length_singleton] at this
      omega
theorem putB_len (b : Blk) (r : List Blk) (q : PgQ) : (putB b r q).1.1.length ≤ q.1.length + (b.lines.length + 2) ∧ (putB b r q).2 ≤ q.1.length + 1 := by
  unfold putB
  dsimp only
  have h : (if topB b r q.2 = true ∧ ¬ q.2 = [] then q.1 ++ [q.2] else q.1).length ≤ q.1.length + 1 := by
    split
    · rw [List.length_append, List.length_singleton]; exact Nat.le_refl _
    · omega
  exact ⟨Nat.le_trans (fillB_len b _ 0 _ _) (by omega), h⟩
theorem layB_plen {M : Nat} : ∀ (l : List Blk) (q : PgQ) (st : List Nat), (∀ b ∈ l, b.lines.length ≤ M) → (layB l q.1 q.2 st).1.length ≤ q.1.length + l.length * (M + 2) ∧ ∀ s ∈ (layB l q.1 q.2 st).2.2, s ∈ st ∨ s ≤ q.1.length + l.length * (M + 2)
  | [], q, st, _ => ⟨by show q.1.length ≤ _; omega, fun s hs => .inl hs⟩
  | b :: r, q, st, h => by
    obtain ⟨h1, h2⟩ := putB_len b r q
    have hb := h b (by simp)
    obtain ⟨a, c⟩ := layB_plen r (putB b r q).1 (st ++ [(putB b r q).2]) (fun y hy => h y (by simp [hy]))
    rw [show layB (b :: r) q.1 q.2 st = layB r (putB b r q).1.1 (putB b r q).1.2 (st ++ [(putB b r q).2]) from rfl, List.length_cons, Nat.add_mul, Nat.one_mul]
    refine ⟨by omega, fun s hs => ?_⟩
    rcases c s hs with hs | hs
    · rcases List.mem_append.1 hs with hs | hs
      · exact .inl hs
      · rw [List.mem_singleton] at hs; subst hs; exact .inr (by omega)
    · exact .inr (by omega)
/-- Bounds for a script of the generator. -/
theorem pages_few {xs : List Scene} (h1 : ∀ x ∈ xs, LnOk x) (h2 : ∀ x ∈ xs, x.paras.length ≤ 61) (hl : xs.length ≤ 91) : (pagesB ((xs.map blocksS).flatten)).length ≤ 48000000 ∧ (∀ s ∈ (layB ((xs.map blocksS).flatten) [] [] []).2.2, s ≤ 48000000) ∧ ((xs.map blocksS).flatten).length ≤ 5642 := by
  obtain ⟨a, b⟩ := flat_few xs h1 h2
  obtain ⟨c, d⟩ := layB_plen (M := 8500) ((xs.map blocksS).flatten) ([], []) [] (fun y hy => (b y hy).2.2)
  have e : ((xs.map blocksS).flatten).length * 8502 ≤ 5642 * 8502 := Nat.mul_le_mul_right _ (by omega)
  dsimp only [List.length_nil] at c d
  refine ⟨?_, fun s hs => ?_, by omega⟩
  · unfold pagesB
    rw [List.length_append]
    have : (if (layB ((xs.map blocksS).flatten) [] [] []).2.1 = [] then ([] : List (List ByteArray)) else [(layB ((xs.map blocksS).flatten) [] [] []).2.1]).length ≤ 1 := by split <;> simp
    omega
  · rcases d s hs with h | h
    · cases h
    · omega
theorem headsAt_lt : ∀ (L : List (List Blk)) (k : Nat), (∀ l ∈ L, l ≠ []) → ∀ h ∈ headsAt L k, h < k + L.flatten.length
  | [], _, _, _, h => by cases h
  | l :: L, k, hl, h, hh => by
    rw [headsAt] at hh
    have hp : 0 < l.length := Nat.pos_of_ne_zero fun e => hl l (by simp) (List.eq_nil_of_length_eq_zero e)
    rw [List.flatten_cons, List.length_append]
    rcases List.mem_cons.1 hh with rfl | hh
    · omega
    · have := headsAt_lt L (k + l.length) (fun x hx => hl x (by simp [hx])) h hh
      omega
/-- Pages with their numbers. -/
abbrev PgT := (Nat × List ByteArray) × Value
def numP (P : List (List ByteArray)) : List (Nat × List ByteArray) := P.zipIdx.map fun q => (q.2 + 1, q.1)
theorem numP_snoc (P : List (List ByteArray)) (x : List ByteArray) : numP (P ++ [x]) = numP P ++ [(P.length + 1, x)] := by
  unfold numP
  rw [List.zipIdx_append, List.map_append]
  simp
def pgCs (y : PgT) : List Value := [.int .i64 (y.1.1 : Int), y.2]
def pgR : Rep PgT := Rep.flat 2 pgCs (fun _ => rfl)
theorem valAt {w : World} {F : Nat → Prop} {l : List Value} {A : Option Addr} {n c : Nat} (h : Sli valR w F l (.slice A n c)) (k : Nat) (hk : k < l.length) : ∃ b off, A = some ⟨b, off, none⟩ ∧ F b ∧ w.cell? ⟨b, off + k, none⟩ = some l[k] := by
  obtain ⟨A', c', e, h1, h2, h3⟩ := h
  injection e with e1 e2 e3
  subst e1
  obtain ⟨b, off, cs, rfl, hF, hl, hc⟩ := h3 (by omega)
  refine ⟨b, off, rfl, hF, hc k _ ?_⟩
  have hz : (cs.drop (k * 1)).take 1 = [l[k]] := hl.2 k _ (List.getElem?_eq_getElem hk)
  rw [Nat.mul_one] at hz
  have := congrArg (fun q : List Value => q[0]?) hz
  simpa using this
def PgO (w w' : World) (P : List (List ByteArray)) (v : Value) : Prop := ∃ l : List PgT, l.map (·.1) = numP P ∧ Sli pgR w' (fun q => w.heap.size ≤ q ∧ q < w'.heap.size) l v ∧ ∀ y ∈ l, Sli strR w' (fun q => w.heap.size ≤ q ∧ q < w'.heap.size) y.1.2 y.2
def LtP (x : Script) (w : World) (e : Ending) (w' : World) : Prop := ∃ v, e = .returned (.tuple #[v, .int .i64 (chkE x)]) ∧ Below w.heap.size w w' ∧ ((¬ chkE x = 0 ∧ v = .slice none 0 0) ∨ (chkE x = 0 ∧ PgO w w' (pagesB ((x.scenes.map blocksS).flatten)) v))
set_option maxRecDepth 100000 in
set_option maxHeartbeats 8000000 in
theorem Layout_c {F : Nat → Prop} (t : ByteArray) (ls : List (Scene × Value)) (v : Value) (w : World) (h : ScL w F t ls v) (hm : MaxLaid w) (hln : ls.length ≤ 91) (hpn : ∀ y ∈ ls, y.1.paras.length ≤ 61) :
    Calls Tryz.prog 5 #[.agg #[.string t, v]] w (LtP ⟨t, ls.map (·.1)⟩ w) := by
  obtain ⟨i0, hi0, hz0, hz1, hz2⟩ := info_parts (show (Tryz.prog.info? 57).map (fun i => (i.zero, i.size, i.bytes)) = some (some (.agg #[.int .i64 0, .slice none 0 0]), 2, 32) by kernel_rfl)
  obtain ⟨A, c, rfl, hlc, hcm⟩ := h.sli.form
  have HB := Lib.hid ((Below.refl w.heap.size w).alloc (Nat.le_refl _) (.cells #[.string t, .slice A ls.length c] 28))
  have h1 := h.below HB.out
  have HCK := Lib.hid (Check_c t ls (.slice A ls.length c) (w.alloc (.cells #[.string t, .slice A ls.length c] 28)) h1 (max_alloc hm _))
  have HH := Lib.hid h1
  have HY := Lib.hid (fun (W : World) (hb : Below (w.alloc (.cells #[.string t, .slice A ls.length c] 28)).heap.size (w.alloc (.cells #[.string t, .slice A ls.length c] 28)) W) => show W.cell? ⟨w.heap.size, 0, none⟩ = some (.string t) ∧ W.cell? ⟨w.heap.size, 1, none⟩ = some (.slice A ls.length c) by
    obtain ⟨y, _⟩ := str_cells ((hb.block w.heap.size (by simp)).trans (heap_alloc_new w _))
    exact ⟨y 0, y 1⟩)
  have HLD := Lib.hid (fun (hc : chkE ⟨t, ls.map (·.1)⟩ = 0) (W : World) (hW : ScL W F t ls (.slice A ls.length c)) => laid_c t ls (.slice A ls.length c) W hW (fun y hy => LnOk.of (chkE_ok hc) (y := y.1) (List.mem_map_of_mem hy)) hln hpn)
  have HPF := Lib.hid (fun (hc : chkE ⟨t, ls.map (·.1)⟩ = 0) => (pages_few (xs := ls.map (·.1)) (fun x hx => LnOk.of (chkE_ok hc) hx) (fun x hx => by
    obtain ⟨y, hy, rfl⟩ := List.mem_map.1 hx
    exact hpn y hy) (by rw [List.length_map]; exact hln)).1)
  clear h h1 hm hpn hln
  obtain ⟨L, hL⟩ : ∃ L, ls.length = L := ⟨_, rfl⟩
  rw [hL] at HCK HH HY HLD hlc HB ⊢
  clear hL
  go_enter Tryz.func5, Tryz.ntmps5
  go_wp2_with fail
  refine HCK.out.mono ?_
  rintro e w2 ⟨rfl, hb2⟩
  obtain ⟨y0, y1⟩ := HY.out w2 hb2
  have HH2 := Lib.hid (HH.out.below hb2)
  have HB2 := Lib.hid (HB.out.trans (hb2.mono HB.out.size))
  clear hb2 HCK HY HB HH
  by_cases hc : chkE ⟨t, ls.map (·.1)⟩ = 0
  case neg =>
    have HR := Lib.hid (show LtP ⟨t, ls.map (·.1)⟩ w (.returned (.tuple #[.slice none 0 0, .int .i64 (chkE ⟨t, ls.map (·.1)⟩)])) w2 from ⟨_, rfl, HB2.out, .inl ⟨hc, rfl⟩⟩)
    have hne : (chkE ⟨t, ls.map (·.1)⟩ != 0) = true := by rw [bne_iff_ne]; exact hc
    clear hc
    generalize chkE ⟨t, ls.map (·.1)⟩ = ce at *
    go_wp2
    go_ret2
    exact HR.out
  have HC := Lib.hid hc
  have HLC := Lib.hid (HLD.out hc w2 HH2.out)
  have hpf := HPF.out hc
  rw [hc]
  clear hc HLD HPF
  go_wp2_with fail
  refine HLC.out.mono ?_
  rintro e w3 ⟨Ps, A1, A2, A3, A4, n2, c1, c2, c3, c4, rfl, hPs, hb3, hp1, hp2, _, _⟩
  rw [← hPs, List.length_map] at hpf
  have HPS := Lib.hid hPs
  have HB3 := Lib.hid (HB2.out.trans (hb3.mono HB2.out.size))
  have hz23 := HB2.out.size
  have hlt3 : ∀ q, (w2.heap.size ≤ q ∧ q < w3.heap.size) → q < w3.heap.size := fun q hq => hq.2
  obtain ⟨n3, hn3⟩ : ∃ n3, ((ls.map (·.1)).map blocksS).flatten.length = n3 := ⟨_, rfl⟩
  rw [hn3]
  have hbA := (Below.refl w3.heap.size w3).alloc (Nat.le_refl _) (.cells #[.slice A1 Ps.length c1, .slice A2 n2 c2, .slice A3 n3 c3] 52)
  have HP1 := Lib.hid (hp1.below hbA hlt3)
  have HP2 := Lib.hid (fun q hq => (hp2 q hq).below hbA hlt3)
  have HB4 := Lib.hid (HB3.out.trans (hbA.mono HB3.out.size))
  have HZ4 : w3.heap.size < (w3.alloc (.cells #[.slice A1 Ps.length c1, .slice A2 n2 c2, .slice A3 n3 c3] 52)).heap.size := by simp
  obtain ⟨q0, _⟩ := str_cells (heap_alloc_new w3 (.cells #[.slice A1 Ps.length c1, .slice A2 n2 c2, .slice A3 n3 c3] 52))
  have k0 : (w3.alloc (.cells #[.slice A1 Ps.length c1, .slice A2 n2 c2, .slice A3 n3 c3] 52)).cell? ⟨w3.heap.size, 0, none⟩ = some (.slice A1 Ps.length c1) := q0 0
  clear hPs hp1 hp2 hb3 hbA HLC q0 hn3
  go_upto_region 6 with (fail)
  generalize w3.alloc (.cells #[.slice A1 Ps.length c1, .slice A2 n2 c2, .slice A3 n3 c3] 52) = w4 at *
  obtain ⟨L2, hL2⟩ : ∃ n, Ps.length = n := ⟨_, rfl⟩
  have HL2 := Lib.hid hL2
  rw [hL2] at HP1 k0 hpf ⊢
  clear hL2
  have hz4 := HB4.out.size
  go_wp2
  go_loopw [7, 23] (fun v i wr => ∃ (k : Nat) (l : List PgT), k ≤ L2 ∧ i = .int .i64 k ∧ Hid (l.map (·.1) = numP ((Ps.take k).map (·.1))) ∧ Hid (∀ y ∈ l, Sli strR w4 (fun q => w2.heap.size ≤ q ∧ q < w3.heap.size) y.1.2 y.2) ∧ Hid (BO pgR 57 w4 l v [] wr)) (fun _ i _ => L2 - (intOf i).toNat)
  case atStart => exact ⟨0, [], Nat.zero_le _, rfl, rfl, (fun y hy => by cases hy), BO.start w4⟩
  case round =>
    clear y0 y1 k0
    obtain ⟨k, l, hk, rfl, HK, HY, HG⟩ := hrel
    have hll : l.length = k := by
      have := congrArg List.length HK.out
      rw [List.length_map] at this
      rw [this]
      unfold numP
      simp
      rw [HL2.out]; omega
    by_cases hlt : k < L2
    · have hkl : k < Ps.length := by rw [HL2.out]; exact hlt
      have hkm : k < (Ps.map (·.2)).length := by rw [List.length_map]; exact hkl
      have hP1 := HP1.out.below HG.out.bel (fun q hq => by have := hq.2; omega)
      obtain ⟨b, off, rfl, hfb, c0⟩ := valAt hP1 k hkm
      rw [List.getElem_map] at c0
      obtain ⟨A5, c5, e5, _, _⟩ := (HP2.out _ (List.getElem_mem hkl)).form
      have HY2 := Lib.hid (HP2.out _ (List.getElem_mem hkl))
      rw [e5] at c0 HY2
      have HTK := Lib.hid (show numP ((Ps.take (k + 1)).map (·.1)) = numP ((Ps.take k).map (·.1)) ++ [(k + 1, (Ps[k]'hkl).1)] by
        rw [List.take_succ_eq_append_getElem hkl, List.map_append, List.map_cons, List.map_nil, numP_snoc]
        rw [List.length_map, List.length_take, Nat.min_eq_left (by omega)])
      generalize (Ps[k]'hkl).1 = x at *
      clear hkl hkm hP1 e5
      have GA := Lib.hid (HG.out.alloc (.cells #[.int .i64 ((k + 1 : Nat) : Int), .slice A5 x.length c5] 57))
      obtain ⟨A6, c6, hv6, _, _⟩ := (Own.sliF (n := 2) (enc := pgCs) (hn := fun _ => rfl) (F := fun _ => True) HG.out.own (fun _ _ => trivial)).form
      subst hv6
      have hw1 : IntKind.i64.wrap ((k : Int) + 1) = ((k + 1 : Nat) : Int) := by rw [IntWalk.i64_in _ (by omega)]; rfl
      have hzr := HG.out.bel.size
      clear HG
      go_wp2_with (at_builtin; (refine wpList_pushB (R := pgR) rfl _ _ _ rfl w4.heap.size w4.heap.size 57 i0 _ 32 Tryz.underlying30 hi0 hz0 hz1 hz2 rfl (by decide) _ (.slice A6 l.length c6) l rfl GA.out.own (((k + 1, x), .slice A5 x.length c5) : PgT) _ rfl (oneC rfl) wr.heap.size _ _ (heap_alloc_new wr _) rfl (by unfold maxLen; omega) (by omega) (by simp; omega) ?_); intro g cap8 w8 hown8 hg8 hat8 hlt8)
      go_roundw
      case rel =>
        rw [hll] at hown8
        exact ⟨k + 1, l ++ [((k + 1, x), .slice A5 x.length c5)], by omega, intNum, Lib.hid (by rw [List.map_append, HK.out, HTK.out]; rfl), Lib.hid (fun y hy => by
          rcases List.mem_append.1 hy with hy | hy
          · exact HY.out y hy
          · rw [List.mem_singleton.1 hy]; exact HY2.out), Lib.hid (GA.out.more hown8 hg8 rfl hat8)⟩
      case measure => simp [intOf]; omega
    · have hkL : k = L2 := by omega
      subst hkL
      have hall : Ps.take k = Ps := List.take_of_length_le (by rw [HL2.out]; omega)
      have hlk := HK.out
      rw [hall, HPS.out] at hlk
      have HR := Lib.hid (show LtP ⟨t, ls.map (·.1)⟩ w (.returned (.tuple #[u7, .int .i64 0])) wr from ⟨_, by rw [HC.out], HB4.out.trans (HG.out.bel.mono hz4), .inr ⟨HC.out, l, hlk, Own.sliF (n := 2) (enc := pgCs) (hn := fun _ => rfl) HG.out.own (fun g hg => by have := HG.out.own.block g hg; exact ⟨by omega, this.2⟩), fun y hy => ((HY.out y hy).below HG.out.bel (fun q hq => by have := hq.2; omega)).more fun q hq => ⟨by have := hq.1; omega, by have := hq.2; have := HG.out.bel.size; omega⟩⟩⟩)
      go_wp2
      go_ret2
      exact HR.out
def StP (x : Script) (w : World) (e : Ending) (w' : World) : Prop := ∃ v, e = .returned (.tuple #[v, .int .i64 (chkE x)]) ∧ Below w.heap.size w w' ∧ ((¬ chkE x = 0 ∧ v = .slice none 0 0) ∨ (chkE x = 0 ∧ Own intR w' w.heap.size w.heap.size 3 ((stR (x.scenes.map blocksS) ([], [])).map fun k : Nat => (k : Int)) v))
set_option maxRecDepth 100000 in
set_option maxHeartbeats 8000000 in
theorem Starts_c {F : Nat → Prop} (t : ByteArray) (ls : List (Scene × Value)) (v : Value) (w : World) (h : ScL w F t ls v) (hm : MaxLaid w) (hln : ls.length ≤ 91) (hpn : ∀ y ∈ ls, y.1.paras.length ≤ 61) :
    Calls Tryz.prog 6 #[.agg #[.string t, v]] w (StP ⟨t, ls.map (·.1)⟩ w) := by
  obtain ⟨i0, hi0, hz0, hz1, hz2⟩ := info_parts (show (Tryz.prog.info? 3).map (fun i => (i.zero, i.size, i.bytes)) = some (some (.int .i64 0), 1, 8) by kernel_rfl)
  obtain ⟨A, c, rfl, hlc, hcm⟩ := h.sli.form
  have HB := Lib.hid ((Below.refl w.heap.size w).alloc (Nat.le_refl _) (.cells #[.string t, .slice A ls.length c] 28))
  have h1 := h.below HB.out
  have HCK := Lib.hid (Check_c t ls (.slice A ls.length c) (w.alloc (.cells #[.string t, .slice A ls.length c] 28)) h1 (max_alloc hm _))
  have HH := Lib.hid h1
  have HY := Lib.hid (fun (W : World) (hb : Below (w.alloc (.cells #[.string t, .slice A ls.length c] 28)).heap.size (w.alloc (.cells #[.string t, .slice A ls.length c] 28)) W) => show W.cell? ⟨w.heap.size, 0, none⟩ = some (.string t) ∧ W.cell? ⟨w.heap.size, 1, none⟩ = some (.slice A ls.length c) by
    obtain ⟨y, _⟩ := str_cells ((hb.block w.heap.size (by simp)).trans (heap_alloc_new w _))
    exact ⟨y 0, y 1⟩)
  have HLD := Lib.hid (fun (hc : chkE ⟨t, ls.map (·.1)⟩ = 0) (W : World) (hW : ScL W F t ls (.slice A ls.length c)) => laid_c t ls (.slice A ls.length c) W hW (fun y hy => LnOk.of (chkE_ok hc) (y := y.1) (List.mem_map_of_mem hy)) hln hpn)
  have HPF := Lib.hid (fun (hc : chkE ⟨t, ls.map (·.1)⟩ = 0) => (pages_few (xs := ls.map (·.1)) (fun x hx => LnOk.of (chkE_ok hc) hx) (fun x hx => by
    obtain ⟨y, hy, rfl⟩ := List.mem_map.1 hx
    exact hpn y hy) (by rw [List.length_map]; exact hln)).2)
  clear h h1 hm hpn
  obtain ⟨L, hL⟩ : ∃ L, ls.length = L := ⟨_, rfl⟩
  have HL := Lib.hid hL
  rw [hL] at HCK HH HY HLD hlc HB hln ⊢
  clear hL
  go_enter Tryz.func6, Tryz.ntmps6
  go_wp2_with fail
  refine HCK.out.mono ?_
  rintro e w2 ⟨rfl, hb2⟩
  obtain ⟨y0, y1⟩ := HY.out w2 hb2
  have HH2 := Lib.hid (HH.out.below hb2)
  have HB2 := Lib.hid (HB.out.trans (hb2.mono HB.out.size))
  clear hb2 HCK HY HB HH
  by_cases hc : chkE ⟨t, ls.map (·.1)⟩ = 0
  case neg =>
    have HR := Lib.hid (show StP ⟨t, ls.map (·.1)⟩ w (.returned (.tuple #[.slice none 0 0, .int .i64 (chkE ⟨t, ls.map (·.1)⟩)])) w2 from ⟨_, rfl, HB2.out, .inl ⟨hc, rfl⟩⟩)
    have hne : (chkE ⟨t, ls.map (·.1)⟩ != 0) = true := by rw [bne_iff_ne]; exact hc
    clear hc
    generalize chkE ⟨t, ls.map (·.1)⟩ = ce at *
    go_wp2
    go_ret2
    exact HR.out
  have HC := Lib.hid hc
  have HLC := Lib.hid (HLD.out hc w2 HH2.out)
  have HPG := Lib.hid (HPF.out hc)
  rw [hc]
  clear hc HLD HPF
  go_wp2_with fail
  refine HLC.out.mono ?_
  rintro e w3 ⟨Ps, A1, A2, A3, A4, n2, c1, c2, c3, c4, rfl, hPs, hb3, _, _, hp1, hp2⟩
  have HB3 := Lib.hid (HB2.out.trans (hb3.mono HB2.out.size))
  have hz23 := HB2.out.size
  have hlt3 : ∀ q, (w2.heap.size ≤ q ∧ q < w3.heap.size) → q < w3.heap.size := fun q hq => hq.2
  obtain ⟨xs, hxs⟩ : ∃ xs, ls.map (·.1) = xs := ⟨_, rfl⟩
  rw [hxs] at hp1 hp2 HPG HC ⊢
  have hxl : xs.length = L := by rw [← hxs, List.length_map, HL.out]
  rw [hxl] at hp2
  have hne0 : ∀ l ∈ xs.map blocksS, l ≠ [] := fun l hl => by
    obtain ⟨x, _, rfl⟩ := List.mem_map.1 hl
    obtain ⟨a, b, e, _⟩ := blocks_shape x
    rw [e]; simp
  have HHL := Lib.hid (headsAt_lt (xs.map blocksS) 0 hne0)
  have HRE := Lib.hid (heads_stR (xs.map blocksS) ([], []) [] hne0)
  have HST := Lib.hid (layB_len ((xs.map blocksS).flatten))
  have hhl : (headsAt (xs.map blocksS) 0).length = L := by rw [headsAt_len, List.length_map, hxl]
  simp only [List.length_nil, List.nil_append] at HRE
  rw [Nat.zero_add] at HHL
  generalize headsAt (xs.map blocksS) 0 = hs at *
  generalize (layB ((xs.map blocksS).flatten) [] [] []).2.2 = st at *
  obtain ⟨n3, hn3⟩ : ∃ n3, ((xs.map blocksS).flatten).length = n3 := ⟨_, rfl⟩
  rw [hn3] at HHL HST hp1 HPG ⊢
  have hbA := (Below.refl w3.heap.size w3).alloc (Nat.le_refl _) (.cells #[.slice A1 Ps.length c1, .slice A2 n2 c2, .slice A3 n3 c3] 52)
  have HP1 := Lib.hid (hp1.below hbA hlt3)
  have HP2 := Lib.hid (hp2.below hbA hlt3)
  have HB4 := Lib.hid (HB3.out.trans (hbA.mono HB3.out.size))
  have HZ4 : w3.heap.size < (w3.alloc (.cells #[.slice A1 Ps.length c1, .slice A2 n2 c2, .slice A3 n3 c3] 52)).heap.size := by simp
  have HX4 := Lib.hid (heap_alloc_new w3 (.cells #[.slice A1 Ps.length c1, .slice A2 n2 c2, .slice A3 n3 c3] 52))
  have HXS := Lib.hid hxs
  clear hPs hp1 hp2 hb3 hbA HLC hn3 hxs
  go_upto_region 6 with (fail)
  generalize w3.alloc (.cells #[.slice A1 Ps.length c1, .slice A2 n2 c2, .slice A3 n3 c3] 52) = w4 at *
  have hz4 := HB4.out.size
  have HHH := Lib.hid hhl
  clear hhl hxl
  go_wp2
  go_loopw [7, 22] (fun v i wr => ∃ (k : Nat), k ≤ L ∧ i = .int .i64 k ∧ Hid (BO intR 3 w4 ((hs.take k).map fun h => ((st.getD h 0 + 1 : Nat) : Int)) v [] wr)) (fun _ i _ => L - (intOf i).toNat)
  case atStart => exact ⟨0, Nat.zero_le _, rfl, BO.start w4⟩
  case round =>
    clear y0 y1
    obtain ⟨k, hk, rfl, HG⟩ := hrel
    by_cases hlt : k < L
    · have hkl : k < hs.length := by rw [HHH.out]; exact hlt
      have hP2 := HP2.out.below HG.out.bel (fun q hq => by have := hq.2; omega)
      have hP1 := HP1.out.below HG.out.bel (fun q hq => by have := hq.2; omega)
      obtain ⟨b, off, rfl, hfb, c0⟩ := knAt hP2 k hkl
      have hh3 := HHL.out _ (List.getElem_mem hkl)
      have HTK := Lib.hid (show (hs.take (k + 1)).map (fun h => ((st.getD h 0 + 1 : Nat) : Int)) = (hs.take k).map (fun h => ((st.getD h 0 + 1 : Nat) : Int)) ++ [((st.getD (hs[k]'hkl) 0 + 1 : Nat) : Int)] by
        rw [List.take_succ_eq_append_getElem hkl, List.map_append, List.map_cons, List.map_nil])
      generalize hs[k]'hkl = hv at *
      have hsl : hv < st.length := by rw [HST.out]; exact hh3
      obtain ⟨b2, off2, rfl, hfb2, d0⟩ := knAt hP1 hv hsl
      have hsb := HPG.out.1 _ (List.getElem_mem hsl)
      have hgd : st.getD hv 0 = st[hv]'hsl := by rw [List.getD_eq_getElem?_getD, List.getElem?_eq_getElem hsl]; rfl
      rw [hgd] at HTK
      have hll : ((hs.take k).map fun h => ((st.getD h 0 + 1 : Nat) : Int)).length = k := by rw [List.length_map, List.length_take]; omega
      generalize st[hv]'hsl = sv at *
      obtain ⟨q4, _⟩ := str_cells ((HG.out.bel.block w3.heap.size HZ4).trans HX4.out)
      have k2 : wr.cell? ⟨w3.heap.size, 2, none⟩ = some (.slice (some ⟨b2, off2, none⟩) n3 c3) := q4 2
      clear hkl hP1 hP2 hsl hgd q4
      generalize ((hs.take k).map fun h => ((st.getD h 0 + 1 : Nat) : Int)) = acc at *
      have GA := Lib.hid (HG.out.alloc (.cells #[.int .i64 ((sv + 1 : Nat) : Int)] 3))
      obtain ⟨A6, c6, hv6, _, _⟩ := (Own.sliF (n := 1) (enc := fun x : Int => [.int .i64 x]) (hn := fun _ => rfl) (F := fun _ => True) HG.out.own (fun _ _ => trivial)).form
      subst hv6
      have hw1 : IntKind.i64.wrap ((sv : Int) + 1) = ((sv + 1 : Nat) : Int) := by rw [IntWalk.i64_in _ (by omega)]; rfl
      have hzr := HG.out.bel.size
      clear HG
      go_wp2_with (at_builtin; (refine wpList_pushB (R := intR) rfl _ _ _ rfl w4.heap.size w4.heap.size 3 i0 _ 8 Tryz.underlying22 hi0 hz0 hz1 hz2 rfl (by decide) _ (.slice A6 acc.length c6) acc rfl GA.out.own ((sv + 1 : Nat) : Int) _ rfl (oneC rfl) wr.heap.size _ _ (heap_alloc_new wr _) rfl (by unfold maxLen; omega) (by omega) (by simp; omega) ?_); intro g cap8 w8 hown8 hg8 hat8 hlt8)
      go_roundw
      case rel =>
        rw [hll] at hown8
        exact ⟨k + 1, by omega, intNum, Lib.hid (by rw [HTK.out]; exact GA.out.more hown8 hg8 rfl hat8)⟩
      case measure => simp [intOf]; omega
    · have hkL : k = L := by omega
      subst hkL
      have hall : hs.take k = hs := List.take_of_length_le (by rw [HHH.out]; omega)
      have HR := Lib.hid (show StP ⟨t, ls.map (·.1)⟩ w (.returned (.tuple #[u7, .int .i64 0])) wr from by
        rw [HXS.out]
        exact ⟨_, by rw [HC.out], HB4.out.trans (HG.out.bel.mono hz4), .inr ⟨HC.out, by
          have ho := HG.out.own
          rw [hall] at ho
          have he : (stR (xs.map blocksS) ([], [])).map (fun k : Nat => (k : Int)) = hs.map fun h => ((st.getD h 0 + 1 : Nat) : Int) := by
            rw [← HRE.out, List.map_map]
            rfl
          show Own intR _ _ _ _ ((stR (xs.map blocksS) ([], [])).map fun k : Nat => (k : Int)) _
          rw [he]
          exact Own.less (enc := fun x : Int => [.int .i64 x]) (hn := fun _ => rfl) ho hz4⟩⟩)
      go_wp2
      go_ret2
      exact HR.out
end Go.Proofs.YtndillbimibecaaGreatDoor

/- The reference's sheet: pages that are filled; room and put, walked. -/
namespace Go.Proofs.YtndillbimibecaaGreatDoor
set_option linter.unusedVariables false
open Go.RowKit Go.Sort

section
variable {w wx : World} {rs : List Row} {P : List Pc}
/-- A store into an element of the first row. -/
theorem MR.elem {t : TypeId} {l : List Value} {g n cap k : Nat} (h : MR w ((t, l, .slice (some ⟨g, 0, none⟩) n cap) :: rs) P wx) (hk : k < l.length) (u : Value) : MR w ((t, l.set k u, .slice (some ⟨g, 0, none⟩) n cap) :: rs) P (wx.setCell ⟨g, k, none⟩ u) := by
  have h0 := h.own _ (List.mem_cons_self ..)
  have hb := h0.block g rfl
  have hd := List.pairwise_cons.1 h.dis
  have hm : l.modify k (fun _ => u) = l.set k u := by
    apply List.ext_getElem?
    intro i
    rw [List.getElem?_modify, List.getElem?_set]
    by_cases e : k = i
    · subst e
      simp [hk]
    · rw [if_neg e]
      cases l[i]? <;> simp [e]
  have hown := Own.modify (n := 1) (enc := fun v : Value => [v]) (hn := fun _ => rfl) h0 (fun _ => u) k 0 u (fun x => rfl) (by decide) hk
  dsimp only at hown
  rw [hm, Nat.mul_one] at hown
  have ho : ∀ q, q ≠ g → (wx.setCell ⟨g, k, none⟩ u).heap[q]? = wx.heap[q]? := fun q hq => Below.heap_setCell wx ⟨g, k, none⟩ u q (by exact hq)
  refine ⟨belSet h.bel hb.1 u, fun r hr => ?_, List.pairwise_cons.2 ⟨fun r hr q hq => hd.1 r hr q hq, hd.2⟩, fun p hp => ?_⟩
  · rcases List.mem_cons.1 hr with rfl | hr2
    · exact hown
    · exact (h.own r (by simp [hr2])).keepV fun q hq => ho q (fun e => by subst e; exact hd.1 r hr2 _ rfl hq)
  · obtain ⟨k1, k2, k3⟩ := h.prv p hp
    exact ⟨(ho p.1 (fun e => k3 _ (List.mem_cons_self ..) (by rw [e]; rfl))).trans k1, k2, fun r hr => by
      rcases List.mem_cons.1 hr with rfl | hr2
      · exact k3 (t, l, .slice (some ⟨g, 0, none⟩) n cap) (by simp)
      · exact k3 r (by simp [hr2])⟩
/-- An element of the first row, read. -/
theorem MR.at_ {t : TypeId} {l : List Value} {v : Value} {k : Nat} (h : MR w ((t, l, v) :: rs) P wx) (hk : k < l.length) : ∃ g c, v = .slice (some ⟨g, 0, none⟩) l.length c ∧ wx.cell? ⟨g, k, none⟩ = some l[k] ∧ wx.frozen? ⟨g, k, none⟩ = false ∧ g < wx.heap.size ∧ w.heap.size ≤ g := by
  have h0 := h.own _ (List.mem_cons_self ..)
  rcases h0.form with ⟨_, h2⟩ | ⟨g, c, e, _⟩
  · dsimp only at h2; rw [h2] at hk; simp at hk
  · dsimp only at h0 e
    subst e
    have hc := Own.cellAt (n := 1) (enc := fun v : Value => [v]) (hn := fun _ => rfl) h0 k hk 0 (by decide)
    have hb := h0.block g rfl
    rw [Nat.mul_one] at hc
    exact ⟨g, c, rfl, hc.1, hc.2, hb.2, hb.1⟩
end
/-- Pages, the last one at hand, in the box of the sheet. -/
abbrev PgL := List ByteArray × Value
def rowP (q : PgL) : Row := (9, q.1.map Value.string, q.2)
structure ShM (w : World) (o : Nat) (Qs : List PgL) (v : Value) (Rs : List Row) (X : List Pc) (wx : World) : Prop where
  mr : MR w ((55, Qs.map (·.2), v) :: (Qs.map rowP ++ Rs)) ((o, #[v], 102) :: X) wx
  ne : ∀ x ∈ X, x.1 ≠ o
section
variable {w wx wy : World} {o : Nat} {Qs Ps : List PgL} {v pv : Value} {pg : List ByteArray} {Rs : List Row} {X : List Pc}
theorem ShM.below (h : ShM w o Qs v Rs X wx) (hb : Below wx.heap.size wx wy) : ShM w o Qs v Rs X wy := ⟨h.mr.below hb, h.ne⟩
theorem ShM.drew (h : ShM w o Qs v Rs X wx) : ShM w o Qs v Rs X wx.drew := ⟨h.mr.drew, h.ne⟩
theorem ShM.alloc (h : ShM w o Qs v Rs X wx) (b : Obj) : ShM w o Qs v Rs X (wx.alloc b) := ⟨h.mr.alloc b, h.ne⟩
theorem ShM.form (h : ShM w o Qs v Rs X wx) : ∃ A c, v = .slice A Qs.length c := by
  obtain ⟨A, c, e⟩ := own_sl (h.mr.own _ (List.mem_cons_self ..))
  dsimp only at e
  rw [List.length_map] at e
  exact ⟨A, c, e⟩
theorem ShM.box (h : ShM w o Qs v Rs X wx) : wx.cell? ⟨o, 0, none⟩ = some v ∧ wx.frozen? ⟨o, 0, none⟩ = false ∧ o < wx.heap.size := by
  obtain ⟨a, b⟩ := h.mr.cell (p := (o, #[v], 102)) (by simp)
  exact ⟨a 0, b 0, h.mr.plt (p := (o, #[v], 102)) (by simp)⟩
theorem ShM.last (h : ShM w o (Ps ++ [(pg, pv)]) v Rs X wx) : (∃ g c, v = .slice (some ⟨g, 0, none⟩) (Ps.length + 1) c ∧ wx.cell? ⟨g, Ps.length, none⟩ = some pv ∧ wx.frozen? ⟨g, Ps.length, none⟩ = false ∧ g < wx.heap.size ∧ g ≠ o ∧ pv.ownBlock ≠ some g) ∧ (∃ A c, pv = .slice A pg.length c) ∧ pv.ownBlock ≠ some o := by
  have hk : Ps.length < ((Ps ++ [(pg, pv)]).map (·.2)).length := by simp
  obtain ⟨g, c, e, h1, h2, h3, h4⟩ := h.mr.at_ hk
  have hr := h.mr.own (rowP (pg, pv)) (by simp)
  obtain ⟨A, c2, e2⟩ := own_sl hr
  change pv = .slice A (pg.map Value.string).length c2 at e2
  rw [List.length_map] at e2
  have hp := (h.mr.prv (o, #[v], 102) (by simp)).2.2
  refine ⟨⟨g, c, by rw [e]; simp, by rw [h1]; simp, h2, h3, fun e3 => hp _ (List.mem_cons_self ..) (by rw [e, e3]; rfl), fun e3 => ?_⟩, ⟨A, c2, e2⟩, hp (rowP (pg, pv)) (by simp)⟩
  have hd := (List.pairwise_cons.1 h.mr.dis).1 (rowP (pg, pv)) (by simp)
  exact hd g (by rw [e]; rfl) e3
/-- The page at hand first. -/
theorem ShM.front (h : ShM w o (Ps ++ [(pg, pv)]) v Rs X wx) : MR w ((9, pg.map Value.string, pv) :: (55, (Ps ++ [(pg, pv)]).map (·.2), v) :: (Ps.map rowP ++ Rs)) ((o, #[v], 102) :: X) wx := by
  have h2 := h.mr
  rw [List.map_append (f := rowP), List.append_assoc] at h2
  exact MR.pick (a := (55, (Ps ++ [(pg, pv)]).map (·.2), v) :: Ps.map rowP) (r := rowP (pg, pv)) (b := Rs) h2
/-- The page at hand has grown, and stands in the row of pages again. -/
theorem ShM.put {pg2 : List ByteArray} {v2 : Value} {g n c : Nat} (h : MR w ((9, pg2.map Value.string, v2) :: (55, (Ps ++ [(pg, pv)]).map (·.2), .slice (some ⟨g, 0, none⟩) n c) :: (Ps.map rowP ++ Rs)) ((o, #[.slice (some ⟨g, 0, none⟩) n c], 102) :: X) wx) (hne : ∀ x ∈ X, x.1 ≠ o) :
    ShM w o (Ps ++ [(pg2, v2)]) (.slice (some ⟨g, 0, none⟩) n c) Rs X (wx.setCell ⟨g, Ps.length, none⟩ v2) := by
  have h2 : MR w _ _ _ := h.perm (List.Perm.swap _ _ _)
  have h3 := h2.elem (k := Ps.length) (by simp) v2
  have e : ((Ps ++ [(pg, pv)]).map (·.2)).set Ps.length v2 = (Ps ++ [(pg2, v2)]).map (·.2) := by
    rw [List.map_append, List.map_append]
    rw [List.set_append_right _ _ (by simp)]
    simp
  rw [e] at h3
  refine ⟨?_, hne⟩
  rw [List.map_append (f := rowP), List.append_assoc]
  exact MR.unpick (a := (55, (Ps ++ [(pg2, v2)]).map (·.2), .slice (some ⟨g, 0, none⟩) n c) :: Ps.map rowP) (r := rowP (pg2, v2)) (b := Rs) (h3.perm (List.Perm.swap _ _ _))
end
end Go.Proofs.YtndillbimibecaaGreatDoor

/- R.SamePages for pages that are the same, walked. -/
namespace Go.Proofs.YtndillbimibecaaGreatDoor
set_option linter.unusedVariables false
open Go.RowKit Go.Sort

structure PgW (w : World) (F : Nat → Prop) (l : List PgT) (v : Value) : Prop where
  sli : Sli pgR w F l v
  ln : ∀ y ∈ l, Sli strR w F y.1.2 y.2
  lt : ∀ q, F q → q < w.heap.size
theorem PgW.below {w w' : World} {F : Nat → Prop} {l : List PgT} {v : Value} (h : PgW w F l v) (hb : Below w.heap.size w w') : PgW w' F l v :=
  ⟨h.sli.below hb h.lt, fun y hy => (h.ln y hy).below hb h.lt, fun q hq => Nat.lt_of_lt_of_le (h.lt q hq) hb.size⟩
theorem pgAt {w : World} {F : Nat → Prop} {l : List PgT} {A : Option Addr} {n c : Nat} (h : Sli pgR w F l (.slice A n c)) (k : Nat) (hk : k < l.length) : ∃ b off, A = some ⟨b, off, none⟩ ∧ F b ∧ w.cell? ⟨b, off + k * 2, none⟩ = some (.int .i64 (l[k].1.1 : Int)) ∧ w.cell? ⟨b, off + k * 2 + 1, none⟩ = some l[k].2 := by
  obtain ⟨b, off, a, e, hb, hr, hc⟩ := h.at_ k hk
  have ha : a = [.int .i64 (l[k].1.1 : Int), l[k].2] := hr
  subst ha
  exact ⟨b, off, e, hb, hc 0 _ rfl, hc 1 _ rfl⟩
set_option maxRecDepth 100000 in
set_option maxHeartbeats 1600000 in
theorem samePg_c {F : Nat → Prop} (x : Nat × List ByteArray) (v1 v2 : Value) (w : World) (h1 : Sli strR w F x.2 v1) (h2 : Sli strR w F x.2 v2) (hF : ∀ b, F b → b < w.heap.size) :
    Calls Tryz.prog 28 #[.agg #[.int .i64 (x.1 : Int), v1], .agg #[.int .i64 (x.1 : Int), v2]] w fun e w' => e = .returned (.bool true) ∧ Below w.heap.size w w' := by
  obtain ⟨A1, c1, rfl, hlc1, hc1⟩ := h1.form
  obtain ⟨A2, c2, rfl, hlc2, hc2⟩ := h2.form
  have H1 := Lib.hid h1; clear h1
  have H2 := Lib.hid h2; clear h2
  have HF := Lib.hid hF; clear hF
  obtain ⟨n, hn1⟩ : ∃ n, x.2.length = n := ⟨_, rfl⟩
  rw [hn1] at H1 H2 ⊢
  clear hn1 hlc1 hlc2
  have HB := Lib.hid (((Below.refl w.heap.size w).alloc (Nat.le_refl _) (.cells #[.int .i64 (x.1 : Int), .slice A1 n c1] 57)).alloc (by simp) (.cells #[.int .i64 (x.1 : Int), .slice A2 n c2] 57))
  have y := (str_cells ((Below.heap_alloc (w.alloc (.cells #[.int .i64 (x.1 : Int), .slice A1 n c1] 57)) (.cells #[.int .i64 (x.1 : Int), .slice A2 n c2] 57) w.heap.size (by simp)).trans (heap_alloc_new w (.cells #[.int .i64 (x.1 : Int), .slice A1 n c1] 57)))).1
  have z := (str_cells (heap_alloc_new (w.alloc (.cells #[.int .i64 (x.1 : Int), .slice A1 n c1] 57)) (.cells #[.int .i64 (x.1 : Int), .slice A2 n c2] 57))).1
  rw [show (w.alloc (.cells #[.int .i64 (x.1 : Int), .slice A1 n c1] 57)).heap.size = w.heap.size + 1 by simp] at z
  have HY := Lib.hid y
  have HZ := Lib.hid z
  clear y z
  go_enter Tryz.func28, Tryz.ntmps28
  go_upto_region 1 with (fail)
  generalize (w.alloc (.cells #[.int .i64 (x.1 : Int), .slice A1 n c1] 57)).alloc (.cells #[.int .i64 (x.1 : Int), .slice A2 n c2] 57) = w1 at *
  have y0 : w1.cell? ⟨w.heap.size, 0, none⟩ = some (.int .i64 (x.1 : Int)) := HY.out 0
  have y1 : w1.cell? ⟨w.heap.size, 1, none⟩ = some (.slice A1 n c1) := HY.out 1
  have z0 : w1.cell? ⟨w.heap.size + 1, 0, none⟩ = some (.int .i64 (x.1 : Int)) := HZ.out 0
  have z1 : w1.cell? ⟨w.heap.size + 1, 1, none⟩ = some (.slice A2 n c2) := HZ.out 1
  have HEQ := eqStr_c x.2 x.2 (.slice A1 n c1) (.slice A2 n c2) (fun q => q < w1.heap.size) w1 ((H1.out.below HB.out HF.out).more fun q hq => by have := HF.out q hq; have := HB.out.size; omega) ((H2.out.below HB.out HF.out).more fun q hq => by have := HF.out q hq; have := HB.out.size; omega) (fun q hq => hq)
  rw [decide_eq_true rfl] at HEQ
  have HEQ := Lib.hid HEQ
  clear H1 H2 HY HZ
  go_wp2_with fail
  refine HEQ.out.mono ?_
  rintro e w2 ⟨rfl, hb2⟩
  have HB2 := Lib.hid (HB.out.trans (hb2.mono HB.out.size))
  clear hb2
  go_wp2
  go_ret
  exact ⟨rfl, HB2.out⟩
theorem pages_fn : ∀ args W, (callFunc 28 args).run Tryz.prog W = .ok (.enter 28 args) W := fun _ _ => by kernel_rfl
set_option maxRecDepth 100000 in
set_option maxHeartbeats 1600000 in
theorem eqPages_c {F : Nat → Prop} (l1 l2 : List PgT) (v1 v2 : Value) (w : World) (h1 : PgW w F l1 v1) (h2 : PgW w F l2 v2) (he : l1.map (·.1) = l2.map (·.1)) :
    Calls Tryz.prog 27 #[v1, v2, .func (.func 28) #[] #[]] w fun e w' => e = .returned (.bool true) ∧ Below w.heap.size w w' := by
  obtain ⟨A1, c1, rfl, hlc1, hc1⟩ := h1.sli.form
  obtain ⟨A2, c2, rfl, hlc2, hc2⟩ := h2.sli.form
  have eg := pages_fn
  have H1 := Lib.hid h1; clear h1
  have H2 := Lib.hid h2; clear h2
  have hne : l1.length = l2.length := by have := congrArg List.length he; simpa using this
  obtain ⟨n, hn1⟩ : ∃ n, l1.length = n := ⟨_, rfl⟩
  have hn2 : l2.length = n := by omega
  have HN1 := Lib.hid hn1
  have HN2 := Lib.hid hn2
  have HE := Lib.hid he
  rw [hn1] at H1 hlc1 ⊢
  rw [hn2] at H2 hlc2 ⊢
  clear hn1 hn2 hne he
  go_enter Tryz.func27, Tryz.ntmps27
  go_wp2
  go_loopw [17] (fun i wr => ∃ k : Nat, k ≤ n ∧ i = .int .i64 k ∧ Below w.heap.size w wr) (fun i _ => n - (intOf i).toNat)
  case atStart => exact ⟨0, Nat.zero_le _, rfl, Below.refl _ _⟩
  case round =>
    obtain ⟨k, hk, rfl, hb⟩ := hrel
    by_cases hlt : k < n
    · have hk1 : k < l1.length := by rw [HN1.out]; exact hlt
      have hk2 : k < l2.length := by rw [HN2.out]; exact hlt
      have S1 := H1.out.below hb
      have S2 := H2.out.below hb
      obtain ⟨b, off, rfl, hfb, a0, a1⟩ := pgAt S1.sli k hk1
      obtain ⟨b2, off2, rfl, hfb2, d0, d1⟩ := pgAt S2.sli k hk2
      have hltb : b < wr.heap.size := S1.lt b hfb
      have hltb2 : b2 < wr.heap.size := S2.lt b2 hfb2
      have p1 := S1.ln _ (List.getElem_mem hk1)
      have p2 := S2.ln _ (List.getElem_mem hk2)
      have hxy : (l1[k]'hk1).1 = (l2[k]'hk2).1 := by
        have h : (l1.map (·.1))[k]? = (l2.map (·.1))[k]? := by rw [HE.out]
        rw [List.getElem?_map, List.getElem?_map, List.getElem?_eq_getElem hk1, List.getElem?_eq_getElem hk2] at h
        injection h
      obtain ⟨A3, c3, e3, l3, _⟩ := p1.form
      obtain ⟨A4, c4, e4, l4, _⟩ := p2.form
      clear l3 l4
      have HBB := Lib.hid hb
      have HB2 := Lib.hid (fun (o1 o2 : Obj) => show Below wr.heap.size wr ((wr.alloc o1).alloc o2) from (((Below.refl _ wr).alloc (Nat.le_refl _) o1).alloc (by simp) o2))
      rw [e3] at a1 p1
      rw [e4] at d1 p2
      rw [← hxy] at d0 d1 p2
      have HEQ := Lib.hid (fun (W : World) (hW2 : Below wr.heap.size wr W) => samePg_c (l1[k]'hk1).1 _ _ W (p1.below hW2 S1.lt) (p2.below hW2 S2.lt) (fun b hb => Nat.lt_of_lt_of_le (S1.lt b hb) hW2.size))
      clear p1 p2 S1 S2 e3 e4 hxy
      generalize (l1[k]'hk1).1 = x at *
      generalize x.2.length = n3 at *
      clear hk1 hk2 hb hfb hfb2
      go_wp2_with fail
      refine (HEQ.out _ (by exact HB2.out _ _)).mono ?_
      rintro e w' ⟨rfl, hb'⟩
      have HB3 := Lib.hid (HBB.out.trans (((HB2.out _ _).trans (hb'.mono (HB2.out _ _).size)).mono HBB.out.size))
      clear hb'
      go_wp2
      go_roundw
      case rel => exact ⟨k + 1, by omega, intNum, HB3.out⟩
      case measure => simp [intOf]; omega
    · go_wp2
      go_ret
      exact ⟨rfl, hb⟩
set_option maxRecDepth 100000 in
set_option maxHeartbeats 1600000 in
theorem SamePages_c {F : Nat → Prop} (l1 l2 : List PgT) (v1 v2 : Value) (w : World) (h1 : PgW w F l1 v1) (h2 : PgW w F l2 v2) (he : l1.map (·.1) = l2.map (·.1)) :
    Calls Tryz.prog 10 #[v1, v2] w fun e w' => e = .returned (.bool true) ∧ Below w.heap.size w w' := by
  have HEQ := Lib.hid (eqPages_c l1 l2 v1 v2 w h1 h2 he)
  clear h1 h2 he
  go_enter Tryz.func10, Tryz.ntmps10
  go_wp2_with fail
  refine HEQ.out.mono ?_
  rintro e w2 ⟨rfl, hb2⟩
  have HB := Lib.hid hb2
  clear hb2
  go_wp2
  go_ret
  exact ⟨rfl, HB.out⟩
end Go.Proofs.YtndillbimibecaaGreatDoor

