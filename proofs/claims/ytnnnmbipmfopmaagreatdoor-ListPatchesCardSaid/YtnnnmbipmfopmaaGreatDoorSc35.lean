/- Texts packed: LnW, LnX, RbT, PgT, PgU, PgV, PgW. -/
import Derived.Test.YtnnnmbipmfopmaaGreatDoorSc34
import Derived.Test.YtnnnmbipmfopmaaGreatDoorSc01
import Derived.Test.YtnnnmbipmfopmaaGreatDoorSc28
import Derived.Test.YtnnnmbipmfopmaaGreatDoorSc33
/- script.lines, walked. -/
namespace Go.Proofs.YtnnnmbipmfopmaaGreatDoor
set_option linter.unusedVariables false
open Go.RowKit Go.Sort

theorem Gap_c (b : Blk) (v1 v2 : Value) (w : World) : Calls Tryz.prog 86 #[.agg #[.int .i64 (b.kind : Int), v1, v2, .string b.name]] w fun e w' => e = .returned (.int .i64 (b.gap : Int)) ∧ Below w.heap.size w w' := by
  have HB := Lib.hid ((Below.refl w.heap.size w).alloc (Nat.le_refl _) (.cells #[.int .i64 (b.kind : Int), v1, v2, .string b.name] 106))
  by_cases h0 : b.kind = 0
  · have HG := Lib.hid (show b.gap = 2 from if_pos h0)
    have h1 : ((b.kind : Int) == 0) = true := by rw [beq_iff_eq]; omega
    clear h0
    go_enter Tryz.func86, Tryz.ntmps86
    go_wp2
    go_ret
    exact ⟨by rw [HG.out]; rfl, HB.out⟩
  · have HG := Lib.hid (show b.gap = 1 from if_neg h0)
    have h1 : ((b.kind : Int) == 0) = false := by rw [beq_eq_false_iff_ne]; omega
    clear h0
    go_enter Tryz.func86, Tryz.ntmps86
    go_wp2
    go_ret
    exact ⟨by rw [HG.out]; rfl, HB.out⟩
/-- A block read from the list. -/
theorem BkN.at_ {w wx : World} {l : List BkT} {g0 M cap : Nat} {P : List Pc} (h : BkN w l (.slice (some ⟨g0, 0, none⟩) M cap) P wx) (j : Nat) (hj : j < l.length) :
    wx.cell? ⟨g0, j * 4, none⟩ = some (.int .i64 (l[j].1.kind : Int)) ∧ wx.cell? ⟨g0, j * 4 + 1, none⟩ = some l[j].2.1 ∧ wx.cell? ⟨g0, j * 4 + 2, none⟩ = some l[j].2.2 ∧ wx.cell? ⟨g0, j * 4 + 3, none⟩ = some (.string l[j].1.name) ∧
    Own strR wx w.heap.size w.heap.size 9 l[j].1.lines l[j].2.1 ∧ ∃ A n c, l[j].2.2 = .slice A n c := by
  have hr := (h.row false j l[j] (List.getElem?_eq_getElem hj)).1
  have hk := (h.row true j l[j] (List.getElem?_eq_getElem hj)).1
  exact ⟨(Own.cellAt h.bo.own j hj 0 (by decide)).1, (Own.cellAt h.bo.own j hj 1 (by decide)).1, (Own.cellAt h.bo.own j hj 2 (by decide)).1, (Own.cellAt h.bo.own j hj 3 (by decide)).1, Own.strs hr, own_form hk⟩
end Go.Proofs.YtnnnmbipmfopmaaGreatDoor

/- script.Lines and script.Eighths, walked. -/
namespace Go.Proofs.YtnnnmbipmfopmaaGreatDoor
set_option linter.unusedVariables false
open Go.RowKit Go.Sort

end Go.Proofs.YtnnnmbipmfopmaaGreatDoor

/- The reference's blocks: how they lie; a text that is not blank has a line. -/
namespace Go.Proofs.YtnnnmbipmfopmaaGreatDoor
set_option linter.unusedVariables false
open Go.RowKit Go.Sort

theorem wrapL_some {wd : Nat} (h0 : 0 < wd) : ∀ (ws : List (List UInt8)), (∀ w ∈ ws, ¬ w = []) → ws ≠ [] → ¬ (wrapL wd ws).cur = [] := by
  have step : ∀ (st : Wst) (w : List UInt8), ¬ w = [] → ¬ (wrapW wd st w).cur = [] := by
    intro st w hw
    unfold wrapW
    rw [if_neg hw]
    split
    · simp
    · exact chopZ_pos h0 w.length w (Nat.le_refl _) hw
  intro ws hws hne
  obtain ⟨a, w, rfl⟩ : ∃ a w, ws = a ++ [w] := ⟨ws.dropLast, ws.getLast hne, (List.dropLast_concat_getLast hne).symm⟩
  rw [wrapL_snoc]
  exact step _ w (hws w (by simp))
theorem wrapT_pos {s : ByteArray} {wd : Nat} (h0 : 0 < wd) (h : wordsA s.data.toList [] ≠ []) : 0 < (wrapT s wd).length := by
  unfold wrapT
  rw [List.length_map]
  have h1 := wrapL_some h0 (wordsA s.data.toList []) (wordsA_ne2 s.data.toList []) h
  have h2 := wrapL_ok h0 (wordsA s.data.toList [])
  refine Nat.pos_of_ne_zero fun e => h1 ((all_nil h2).1 (List.eq_nil_of_length_eq_zero e))
theorem plain_words {s : ByteArray} (h : plainB s = true) (h0 : 0 < s.size) : wordsA s.data.toList [] ≠ [] := fun e => by
  have h2 : (allB prB s && plainL s.data.toList) = true := h
  rw [Bool.and_eq_true] at h2
  have h3 := (plain_join _).2 h2.2
  rw [e] at h3
  have h4 : s.data.toList.length = s.size := by simp
  rw [← h3] at h4
  simp [joinW] at h4
  omega
section
variable {w wx wy : World} {l : List BkT} {P : List Pc} {g0 M cap k g' : Nat} {y : BkT} {u : Value}
end
end Go.Proofs.YtnnnmbipmfopmaaGreatDoor

/- The blocks of a right scene may be put on pages. No program in sight. -/
namespace Go.Proofs.YtnnnmbipmfopmaaGreatDoor
set_option linter.unusedVariables false
open Go.RowKit

theorem wordsA_some : ∀ (l cur : List UInt8), (∃ c ∈ l, ¬ c = 32) → wordsA l cur ≠ []
  | [], _, h => by obtain ⟨c, hc, _⟩ := h; cases hc
  | c :: l, cur, h => by
    rw [wordsA]
    by_cases hc : c = 32
    · rw [if_pos hc]
      by_cases hz : cur = []
      · rw [if_pos hz]
        refine wordsA_some l [] ?_
        obtain ⟨d, hd, hn⟩ := h
        rcases List.mem_cons.1 hd with rfl | hd
        · exact absurd hc hn
        · exact ⟨d, hd, hn⟩
      · rw [if_neg hz]; simp
    · rw [if_neg hc]; exact wordsA_ne _ _ (by simp)
theorem head_words (x : Scene) : wordsA (headS x).data.toList [] ≠ [] := by
  refine wordsA_some _ _ ⟨45, ?_, by decide⟩
  unfold headS
  split <;> simp
theorem rep_map {α : Type} (l : List α) (k : Nat) : (l.map fun _ => k) = List.replicate l.length k := by
  induction l with
  | nil => rfl
  | cons a l ih => rw [List.map_cons, ih]; rfl
theorem GoodB.wrap1 (t : ByteArray) (h : plainB t = true) (h0 : 0 < t.size) : GoodB (blkWrap 1 t) :=
  ⟨wrapT_pos (by decide) (plain_words h h0), fun k => absurd rfl k, fun k => (by cases k), fun k => (by cases k)⟩
theorem GoodB.head {x : Scene} (h : LnOk x) : GoodB (blkWrap 0 (headS x)) := by
  refine ⟨wrapT_pos (by decide) (head_words x), fun _ _ => ?_, fun k => (by cases k), fun k => (by cases k)⟩
  have h1 := wrapT_few (headS x) (wd := 60) (by decide)
  have h2 := h.head.1
  show (wrapT (headS x) 60).length ≤ 50
  omega
theorem GoodB.turn (t : ByteArray) : GoodB (blkTurn t) := ⟨Nat.le_refl 1, fun _ _ => by show 1 ≤ 50; omega, fun k => (by cases k), fun k => (by cases k)⟩
theorem GoodB.group (nm : ByteArray) : GoodB (blkGroup nm) := ⟨Nat.le_refl 1, fun _ k => absurd rfl k, fun _ => rfl, fun _ => ⟨by omega, trivial⟩⟩
/-- Lines put to a group. -/
theorem GoodB.put {b : Blk} (h : GoodB b) (h3 : b.kind = 3) (kd at_ : Nat) (l : List ByteArray) (hr : runOk 15 (endRun 0 b.kinds) (List.replicate l.length kd)) : GoodB (b.put kd at_ l) := by
  refine ⟨?_, fun _ k => absurd h3 k, fun _ => ?_, fun _ => ?_⟩
  · show 1 ≤ (b.lines ++ l.map (indS at_)).length
    have := h.pos
    rw [List.length_append]; omega
  · show (b.kinds ++ l.map fun _ => kd).length = (b.lines ++ l.map (indS at_)).length
    rw [List.length_append, List.length_append, List.length_map, List.length_map, h.ks h3]
  · show runOk 15 0 (b.kinds ++ l.map fun _ => kd)
    rw [rep_map]
    exact runOk_append _ _ _ (h.run h3) hr
/-- The blocks so far, behind a paragraph of a kind. -/
def BlSt (out : List Blk) (last : Int) : Prop := (∀ b ∈ out, GoodB b) ∧ (last = 2 ∨ last = 3 ∨ last = 4 → ∃ o b, out = o ++ [b] ∧ b.kind = 3 ∧ endRun 0 b.kinds ≤ (if last = 2 then 1 else if last = 3 then 15 else 0))
theorem mod_at {α : Type} (b : α) (f : α → α) : ∀ (o : List α), (o ++ [b]).modify o.length f = o ++ [f b]
  | [] => rfl
  | x :: o => congrArg (x :: ·) (mod_at b f o)
theorem mod_last {α : Type} (o : List α) (b : α) (f : α → α) : (o ++ [b]).modify ((o ++ [b]).length - 1) f = o ++ [f b] := by
  rw [List.length_append, List.length_singleton, Nat.add_sub_cancel]
  exact mod_at b f o
theorem BlSt.snoc {out : List Blk} {last k : Int} {b : Blk} (h : BlSt out last) (hb : GoodB b) (hk : k = 2 ∨ k = 3 ∨ k = 4 → b.kind = 3 ∧ endRun 0 b.kinds ≤ (if k = 2 then 1 else if k = 3 then 15 else 0)) : BlSt (out ++ [b]) k :=
  ⟨fun x hx => by
    rcases List.mem_append.1 hx with hx | hx
    · exact h.1 x hx
    · rw [List.mem_singleton.1 hx]; exact hb, fun hq => ⟨out, b, rfl, hk hq⟩⟩
theorem BlSt.step {out : List Blk} {last : Int} {p : Para} (h : BlSt out last) (hp : paraE p = 0) (hf : followsB p.kind last = true) : BlSt (blkPara out p) p.kind := by
  obtain ⟨h0, h1, h2, h3, h4⟩ := paraE_sz hp
  unfold blkPara
  by_cases k1 : p.kind = 1
  · rw [if_pos k1]; exact h.snoc (GoodB.wrap1 _ h2 h0) (fun k => by omega)
  rw [if_neg k1]
  by_cases k5 : p.kind = 5
  · rw [if_pos k5]; exact h.snoc (GoodB.turn _) (fun k => by omega)
  rw [if_neg k5]
  by_cases k2 : p.kind = 2
  · rw [if_pos k2, k2]; exact h.snoc (GoodB.group _) (fun _ => ⟨rfl, by rw [if_pos rfl]; exact Nat.le_refl 1⟩)
  rw [if_neg k2]
  by_cases k3 : p.kind = 3
  · rw [if_pos k3]
    have hl : last = 2 ∨ last = 4 := by unfold followsB at hf; rw [if_pos k3] at hf; simpa using hf
    obtain ⟨o, b, rfl, hb3, hbr⟩ := h.2 (by omega)
    have hbr1 : endRun 0 b.kinds ≤ 1 := by rcases hl with rfl | rfl <;> simp at hbr <;> omega
    have hg : GoodB b := h.1 b (by simp)
    have h200 : p.text.size ≤ 200 := by
      unfold paraE at hp
      rw [if_neg (by omega)] at hp
      split at hp
      · cases hp
      · split at hp
        · cases hp
        · rename_i hc; exact Nat.le_of_not_lt fun hx => hc (.inr ⟨k3, hx⟩)
    have hw := wrapT_few (⟨#[40]⟩ ++ p.text ++ ⟨#[41]⟩) (wd := 30) (by decide)
    rw [par_sz] at hw
    rw [mod_last, k3]
    generalize wrapT (⟨#[40]⟩ ++ p.text ++ ⟨#[41]⟩) 30 = ls at *
    have hls : ls.length ≤ 14 := by omega
    refine ⟨fun x hx => ?_, fun _ => ⟨o, _, rfl, hb3, ?_⟩⟩
    · rcases List.mem_append.1 hx with hx | hx
      · exact h.1 x (by simp [hx])
      · rw [List.mem_singleton.1 hx]; exact hg.put hb3 1 15 ls (runOk_rep1 15 _ _ (by omega))
    · show endRun 0 (b.kinds ++ ls.map fun _ => 1) ≤ _
      rw [rep_map, endRun_append, endRun_rep1, if_neg (by decide), if_pos rfl]
      omega
  rw [if_neg k3]
  have k4 : p.kind = 4 := by omega
  rw [if_pos k4]
  have hl : last = 2 ∨ last = 3 ∨ last = 4 := by unfold followsB at hf; rw [if_neg k3, if_pos k4] at hf; simpa [or_assoc] using hf
  obtain ⟨o, b, rfl, hb3, hbr⟩ := h.2 hl
  have hg : GoodB b := h.1 b (by simp)
  have hw := wrapT_pos (s := p.text) (wd := 35) (by decide) (plain_words h2 h0)
  rw [mod_last, k4]
  generalize wrapT p.text 35 = ls at *
  refine ⟨fun x hx => ?_, fun _ => ⟨o, _, rfl, hb3, ?_⟩⟩
  · rcases List.mem_append.1 hx with hx | hx
    · exact h.1 x (by simp [hx])
    · rw [List.mem_singleton.1 hx]; exact hg.put hb3 2 10 ls (runOk_rep2 15 _ _)
  · show endRun 0 (b.kinds ++ ls.map fun _ => 2) ≤ _
    rw [rep_map, endRun_append, endRun_rep2 _ _ hw]
    exact Nat.zero_le _
theorem blSt_all : ∀ (l : List Para) (out : List Blk) (last : Int), parasE last l = 0 → BlSt out last → ∀ b ∈ l.foldl blkPara out, GoodB b
  | [], _, _, _, h => h.1
  | p :: r, out, last, he, h => by
    rw [parasE] at he
    by_cases h1 : paraE p = 0
    · rw [if_neg (by rw [h1]; decide)] at he
      cases hf : followsB p.kind last with
      | false => rw [hf, if_pos rfl] at he; cases he
      | true =>
        rw [hf, if_neg (by decide)] at he
        exact blSt_all r _ _ he (h.step h1 hf)
    · rw [if_pos h1] at he; exact absurd he h1
/-- All blocks of a right scene. -/
theorem blocks_good {x : Scene} (h : LnOk x) : ∀ b ∈ blocksS x, GoodB b :=
  blSt_all x.paras _ 0 h.ok.2.2.2.2 ⟨fun b hb => by rw [List.mem_singleton.1 hb]; exact GoodB.head h, fun k => by omega⟩
end Go.Proofs.YtnnnmbipmfopmaaGreatDoor

/- Pages: the reference's search for a break, and scenes one behind the other. No program in sight. -/
namespace Go.Proofs.YtnnnmbipmfopmaaGreatDoor
set_option linter.unusedVariables false
open Go.RowKit

/-- The reference's last line before a break, lines up to i looked at. -/
def kR (b : Blk) (f i : Nat) : Int := match lastBrk b f i with | some j => (j : Int) - 1 | none => (f : Int) - 1
theorem lastBrk_low (b : Blk) (f : Nat) : ∀ m, m ≤ f → lastBrk b f m = none
  | 0, _ => rfl
  | m + 1, h => by unfold lastBrk; rw [if_neg (by omega)]; exact lastBrk_low b f m (by omega)
/-- A block put by itself. -/
def putB (b : Blk) (r : List Blk) (q : List (List ByteArray) × List ByteArray) : (List (List ByteArray) × List ByteArray) × Nat :=
  let P1 := if topB b r q.2 = true ∧ ¬ q.2 = [] then q.1 ++ [q.2] else q.1
  let pg1 := if topB b r q.2 = true then [] else q.2 ++ List.replicate b.gap ⟨#[]⟩
  (fillB b (b.lines.length + 1) 0 P1 pg1, P1.length)
theorem layB_cons (b : Blk) (r : List Blk) (P : List (List ByteArray)) (pg : List ByteArray) (st : List Nat) : layB (b :: r) P pg st = layB r (putB b r (P, pg)).1.1 (putB b r (P, pg)).1.2 (st ++ [(putB b r (P, pg)).2]) := rfl
theorem layB_st : ∀ (l : List Blk) (P : List (List ByteArray)) (pg : List ByteArray) (st : List Nat), (layB l P pg st).1 = (layB l P pg []).1 ∧ (layB l P pg st).2.1 = (layB l P pg []).2.1 ∧ (layB l P pg st).2.2 = st ++ (layB l P pg []).2.2
  | [], P, pg, st => ⟨rfl, rfl, (List.append_nil _).symm⟩
  | b :: r, P, pg, st => by
    rw [layB_cons, layB_cons]
    obtain ⟨a1, a2, a3⟩ := layB_st r (putB b r (P, pg)).1.1 (putB b r (P, pg)).1.2 (st ++ [(putB b r (P, pg)).2])
    obtain ⟨b1, b2, b3⟩ := layB_st r (putB b r (P, pg)).1.1 (putB b r (P, pg)).1.2 ([] ++ [(putB b r (P, pg)).2])
    refine ⟨a1.trans b1.symm, a2.trans b2.symm, ?_⟩
    rw [a3, b3]
    simp
/-- Within a block's lines each part but the last has one line and more; the page at hand is never empty behind it. -/
theorem putB_top {b : Blk} {r : List Blk} {pg : List ByteArray} : topB b r pg = true ↔ pg = [] ∨ 54 < pg.length + b.gap + needB b r := by
  unfold topB
  rw [Bool.or_eq_true, decide_eq_true_eq]
  cases pg with
  | nil => simp
  | cons a t => simp
theorem leastB_need (b : Blk) (r : List Blk) : leastB b ≤ needB b r := by unfold needB; omega
/-- The room that the first part has. -/
theorem room_first {b : Blk} {r : List Blk} {pg : List ByteArray} (h : topB b r pg = false) : RoomOk b 0 (54 - (pg ++ List.replicate b.gap (⟨#[]⟩ : ByteArray)).length) := by
  have hn : ¬ (pg = [] ∨ 54 < pg.length + b.gap + needB b r) := fun k => by rw [putB_top.2 k] at h; cases h
  have := leastB_need b r
  refine .inl ⟨rfl, .inl ?_⟩
  rw [List.length_append, List.length_replicate]
  have : ¬ 54 < pg.length + b.gap + needB b r := fun k => hn (.inr k)
  omega
theorem room_top (b : Blk) : RoomOk b 0 (54 - ([] : List ByteArray).length) := .inl ⟨rfl, .inr rfl⟩
theorem room_next {b : Blk} {f : Nat} (h : 0 < f) : RoomOk b f (54 - (if b.kind = 3 then [contS b.name] else ([] : List ByteArray)).length) := Or.inr ⟨h, by split <;> simp⟩
/-- What is put behind a break. -/
theorem fillB_end {b : Blk} {m f : Nat} {P : List (List ByteArray)} {pg : List ByteArray} (h : b.lines.length - f ≤ 54 - pg.length) : fillB b (m + 1) f P pg = (P, pg ++ b.lines.drop f) := by
  rw [fillB, if_pos (by unfold stopB; rw [if_pos h])]
theorem fillB_more {b : Blk} (hb : GoodB b) {m f : Nat} {P : List (List ByteArray)} {pg : List ByteArray} (hr : RoomOk b f (54 - pg.length)) (h : ¬ b.lines.length - f ≤ 54 - pg.length) :
    fillB b (m + 1) f P pg = fillB b m (stopB b f (54 - pg.length)) (P ++ [pg ++ (b.lines.drop f).take (stopB b f (54 - pg.length) - f) ++ (if b.kind = 3 then [moreS] else [])]) (if b.kind = 3 then [contS b.name] else []) := by
  rw [fillB, if_neg (by have := (stopB_brk hb hr h).2.2.1; omega)]
end Go.Proofs.YtnnnmbipmfopmaaGreatDoor

/- Pages: where scenes begin, by the program's list of heads and by the reference's. No program in sight. -/
namespace Go.Proofs.YtnnnmbipmfopmaaGreatDoor
set_option linter.unusedVariables false
open Go.RowKit

abbrev PgQ := List (List ByteArray) × List ByteArray
/-- Blocks put, others behind them: what stands on the pages then, and where each began. -/
def runB : List Blk → List Blk → PgQ → PgQ × List Nat
  | [], _, q => (q, [])
  | b :: l, r, q => ((runB l r (putB b (l ++ r) q).1).1, (putB b (l ++ r) q).2 :: (runB l r (putB b (l ++ r) q).1).2)
theorem runB_len : ∀ (l r : List Blk) (q : PgQ), (runB l r q).2.length = l.length
  | [], _, _ => rfl
  | b :: l, r, q => by rw [runB, List.length_cons, List.length_cons, runB_len l r]
theorem layB_run : ∀ (l r : List Blk) (q : PgQ), (layB (l ++ r) q.1 q.2 []).1 = (layB r (runB l r q).1.1 (runB l r q).1.2 []).1 ∧ (layB (l ++ r) q.1 q.2 []).2.1 = (layB r (runB l r q).1.1 (runB l r q).1.2 []).2.1 ∧ (layB (l ++ r) q.1 q.2 []).2.2 = (runB l r q).2 ++ (layB r (runB l r q).1.1 (runB l r q).1.2 []).2.2
  | [], r, q => ⟨rfl, rfl, rfl⟩
  | b :: l, r, q => by
    rw [List.cons_append, layB_cons]
    obtain ⟨a1, a2, a3⟩ := layB_st (l ++ r) (putB b (l ++ r) q).1.1 (putB b (l ++ r) q).1.2 ([] ++ [(putB b (l ++ r) q).2])
    obtain ⟨b1, b2, b3⟩ := layB_run l r (putB b (l ++ r) q).1
    refine ⟨a1.trans b1, a2.trans b2, ?_⟩
    rw [a3, b3, runB]
    simp
end Go.Proofs.YtnnnmbipmfopmaaGreatDoor

/- The blocks of a scene: the heading first, no other heading. No program in sight. -/
namespace Go.Proofs.YtnnnmbipmfopmaaGreatDoor
set_option linter.unusedVariables false
open Go.RowKit

theorem map_modify {α β : Type} (g : α → β) (f : α → α) (hf : ∀ a, g (f a) = g a) : ∀ (l : List α) (i : Nat), (l.modify i f).map g = l.map g
  | [], i => by cases i <;> rfl
  | a :: l, 0 => by show g (f a) :: l.map g = _; rw [hf]; rfl
  | a :: l, i + 1 => congrArg (g a :: ·) (map_modify g f hf l i)
/-- A paragraph leaves the kinds of the blocks, or puts one that is no heading behind them. -/
theorem blkPara_kinds (out : List Blk) (p : Para) : ∃ ks : List Nat, (blkPara out p).map (·.kind) = out.map (·.kind) ++ ks ∧ ∀ k ∈ ks, ¬ k = 0 := by
  unfold blkPara
  split
  · exact ⟨[1], by simp [blkWrap], by simp⟩
  · split
    · exact ⟨[2], by simp [blkTurn], by simp⟩
    · split
      · exact ⟨[3], by simp [blkGroup], by simp⟩
      · split
        · exact ⟨[], by rw [List.append_nil]; exact map_modify (fun y : Blk => y.kind) (fun b => b.put 1 15 _) (fun _ => rfl) out _, by simp⟩
        · split
          · exact ⟨[], by rw [List.append_nil]; exact map_modify (fun y : Blk => y.kind) (fun b => b.put 2 10 _) (fun _ => rfl) out _, by simp⟩
          · exact ⟨[], by rw [List.append_nil], by simp⟩
theorem fold_kinds : ∀ (l : List Para) (out : List Blk), ∃ ks : List Nat, (l.foldl blkPara out).map (·.kind) = out.map (·.kind) ++ ks ∧ ∀ k ∈ ks, ¬ k = 0
  | [], out => ⟨[], by simp, by simp⟩
  | p :: r, out => by
    obtain ⟨k1, h1, g1⟩ := blkPara_kinds out p
    obtain ⟨k2, h2, g2⟩ := fold_kinds r (blkPara out p)
    refine ⟨k1 ++ k2, by rw [List.foldl_cons, h2, h1, List.append_assoc], fun k hk => ?_⟩
    rcases List.mem_append.1 hk with hk | hk
    · exact g1 k hk
    · exact g2 k hk
theorem blocks_shape (x : Scene) : ∃ h t, blocksS x = h :: t ∧ h.kind = 0 ∧ ∀ b ∈ t, ¬ b.kind = 0 := by
  obtain ⟨ks, h1, h2⟩ := fold_kinds x.paras [blkWrap 0 (headS x)]
  change (blocksS x).map (·.kind) = [0] ++ ks at h1
  cases hb : blocksS x with
  | nil => rw [hb] at h1; cases h1
  | cons h t =>
    rw [hb] at h1
    injection h1 with a b
    refine ⟨h, t, rfl, a, fun y hy => h2 _ ?_⟩
    have b' : t.map (·.kind) = ks := b
    rw [← b']
    exact List.mem_map.2 ⟨y, hy, rfl⟩
end Go.Proofs.YtnnnmbipmfopmaaGreatDoor

