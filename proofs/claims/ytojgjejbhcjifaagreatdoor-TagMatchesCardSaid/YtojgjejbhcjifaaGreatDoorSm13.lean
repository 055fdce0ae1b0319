/- Texts packed: ChkS, ChkA, ChkB, ChkC, GrS, CsS, CoS, HdS, HeadD, HeadE, ChkR, RdS, RtS, HfS, SegS, SegW, SegX, SegL, TgS, TgM, PatS, WpF. -/
import Derived.Test.YtojgjejbhcjifaaGreatDoorSm12
import Derived.Test.YtojgjejbhcjifaaGreatDoorSm01
import Derived.RegionTactic
import Derived.Test.YtojgjejbhcjifaaGreatDoorSm03
import Derived.Test.YtojgjejbhcjifaaGreatDoorSm11
import Derived.Lib.LastIndexLaws
import Derived.Lib.SlicesS
import Derived.RangeFuncNested
import Derived.RangeFuncBound
import Derived.RangeFuncCalls
import Derived.RangeFuncLeaves
import Derived.Shelf.Abstract
import Derived.Shelf.RegionOpen
import Derived.WalkKit
import Derived.OwnWalkIn
import Derived.TacticsInMore
import Derived.LoopNIn
import Derived.LoopIn
import Derived.Lib.IndexBytes
import Derived.Deep.DeepCutAuto
/- The errors of scripts in plain words. No program in sight. -/
namespace Go.Proofs.YtojgjejbhcjifaaGreatDoor
set_option linter.unusedVariables false
open Go.RowKit

end Go.Proofs.YtojgjejbhcjifaaGreatDoor

/- The program's tests of paragraphs. -/
namespace Go.Proofs.YtojgjejbhcjifaaGreatDoor
set_option linter.unusedVariables false
open Go.RowKit

end Go.Proofs.YtojgjejbhcjifaaGreatDoor

/- The program's errors of paragraphs and of scenes. -/
namespace Go.Proofs.YtojgjejbhcjifaaGreatDoor
set_option linter.unusedVariables false
open Go.RowKit

end Go.Proofs.YtojgjejbhcjifaaGreatDoor

/- The program's error of a scene. -/
namespace Go.Proofs.YtojgjejbhcjifaaGreatDoor
set_option linter.unusedVariables false
open Go.RowKit

end Go.Proofs.YtojgjejbhcjifaaGreatDoor

/- The groups of a scene's paragraphs, in plain words. No program in sight. -/
namespace Go.Proofs.YtojgjejbhcjifaaGreatDoor
set_option linter.unusedVariables false
open Go.RowKit

end Go.Proofs.YtojgjejbhcjifaaGreatDoor

/- Who speaks in a script, in plain words. No program in sight. -/
namespace Go.Proofs.YtojgjejbhcjifaaGreatDoor
set_option linter.unusedVariables false
open Go.RowKit

end Go.Proofs.YtojgjejbhcjifaaGreatDoor

/- Who speaks in a script, group by group, in plain words. No program in sight. -/
namespace Go.Proofs.YtojgjejbhcjifaaGreatDoor
set_option linter.unusedVariables false
open Go.RowKit

section
variable {α β : Type} {n m : Nat} {enc : α → List Value} {hn : ∀ x, (enc x).length = n} {enc2 : β → List Value} {hm : ∀ x, (enc2 x).length = m} {e e2 : TypeId} {w wx wy : World} {l : List α} {l2 : List β} {v v2 : Value} {P : List Pb}
end
end Go.Proofs.YtojgjejbhcjifaaGreatDoor

/- Headings of scenes and the text of a script, in plain words. No program in sight. -/
namespace Go.Proofs.YtojgjejbhcjifaaGreatDoor
set_option linter.unusedVariables false
open Go.RowKit

def hRest (line : ByteArray) : ByteArray := if cutF line 32 = true ∧ numB (cutA line 32) = true then cutB line 32 else line
def hR2 (line : ByteArray) : ByteArray := cutB (hRest line) 32
def hK (r : ByteArray) : Int := Lib.lastIndex r.data.toList (⟨#[32, 45, 32]⟩ : ByteArray).data.toList
end Go.Proofs.YtojgjejbhcjifaaGreatDoor

/- The reference's sets of scenes and the error of a heading. -/
namespace Go.Proofs.YtojgjejbhcjifaaGreatDoor
set_option linter.unusedVariables false
open Go.RowKit

end Go.Proofs.YtojgjejbhcjifaaGreatDoor

/- The reference's error of a heading. -/
namespace Go.Proofs.YtojgjejbhcjifaaGreatDoor
set_option linter.unusedVariables false
open Go.RowKit

theorem sp_lt {w : World} (h : SpLaid w) : 0 < w.heap.size := by
  unfold SpLaid Lib.TabIs World.var? at h
  rw [show Tryz.prog.globalNamed "strings.asciiSpace" = some 0 by kernel_rfl] at h
  simp only [Option.bind_some] at h
  rcases Nat.lt_or_ge 0 w.heap.size with h' | h'
  · exact h'
  · simp [Array.getElem?_eq_none h'] at h
theorem sp_block {w w' : World} (h : SpLaid w) (hk : w'.heap[0]? = w.heap[0]?) : SpLaid w' := by
  unfold SpLaid Lib.TabIs World.var? at *
  rw [show Tryz.prog.globalNamed "strings.asciiSpace" = some 0 by kernel_rfl] at *
  simp only [Option.bind_some] at *
  rw [hk]; exact h
theorem sp_below {w w' : World} {B : Nat} (h : SpLaid w) (hb : Below B w w') (hB : w.heap.size ≤ B) : SpLaid w' := sp_block h (hb.block _ (by have := sp_lt h; omega))

end Go.Proofs.YtojgjejbhcjifaaGreatDoor

/- The reference's error of a script in plain words, and that it is the program's. No program in sight. -/
namespace Go.Proofs.YtojgjejbhcjifaaGreatDoor
set_option linter.unusedVariables false
open Go.RowKit

end Go.Proofs.YtojgjejbhcjifaaGreatDoor

/- What the reader of scripts keeps, and what a right script stays within. No program in sight. -/
namespace Go.Proofs.YtojgjejbhcjifaaGreatDoor
set_option linter.unusedVariables false
open Go.RowKit

end Go.Proofs.YtojgjejbhcjifaaGreatDoor

/- A heading is read back as it was written. No program in sight. -/
namespace Go.Proofs.YtojgjejbhcjifaaGreatDoor
set_option linter.unusedVariables false
open Go.RowKit

end Go.Proofs.YtojgjejbhcjifaaGreatDoor

/- A heading read by trying each way to divide the line. No program in sight. -/
namespace Go.Proofs.YtojgjejbhcjifaaGreatDoor
set_option linter.unusedVariables false
open Go.RowKit

theorem cut_back {s : ByteArray} {c : UInt8} (h : cutF s c = true) : s = cutA s c ++ ⟨#[c]⟩ ++ cutB s c := by
  unfold cutF at h
  have hlt : cutI s c < s.size := of_decide_eq_true h
  have hl : cutI s c < s.data.toList.length := by simpa using hlt
  have hc : s.data.toList[cutI s c] = c := by have := List.findIdx_getElem (p := (· == c)) (w := hl); exact eq_of_beq this
  apply ba_ext
  unfold cutA cutB
  simp only [ByteArray.data_append, Array.toList_append, extract_list', Nat.sub_zero, List.drop_zero]
  rw [List.take_of_length_le (l := s.data.toList.drop _) (by rw [List.length_drop]; simp)]
  have h2 := List.drop_eq_getElem_cons hl
  rw [hc] at h2
  rw [List.append_assoc, show (⟨#[c]⟩ : ByteArray).data.toList ++ s.data.toList.drop (cutI s c + 1) = s.data.toList.drop (cutI s c) from h2.symm, List.take_append_drop]
end Go.Proofs.YtojgjejbhcjifaaGreatDoor

/- The parts of a text between the places of one byte: what strings.SplitSeq hands out. No program in sight. -/
namespace Go.Proofs.YtojgjejbhcjifaaGreatDoor
set_option linter.unusedVariables false
open Go.RowKit

def segsT (c : UInt8) : List UInt8 → List UInt8 → List (List UInt8)
  | [], cur => [cur]
  | b :: l, cur => if b = c then cur :: segsT c l [] else segsT c l (cur ++ [b])
theorem segsT_next {c : UInt8} (b : List UInt8) : ∀ (a cur : List UInt8), (∀ x ∈ a, x ≠ c) → segsT c (a ++ c :: b) cur = (cur ++ a) :: segsT c b []
  | [], cur, _ => by simp [segsT]
  | x :: a, cur, h => by
    have hx : ¬ x = c := h x (by simp)
    rw [List.cons_append, segsT, if_neg hx, segsT_next b a _ (fun y hy => h y (by simp [hy]))]
    simp
theorem segsT_last {c : UInt8} : ∀ (a cur : List UInt8), (∀ x ∈ a, x ≠ c) → segsT c a cur = [cur ++ a]
  | [], cur, _ => by simp [segsT]
  | x :: a, cur, h => by
    have hx : ¬ x = c := h x (by simp)
    rw [segsT, if_neg hx, segsT_last a _ (fun y hy => h y (by simp [hy]))]
    simp
/-- The text's parts. -/
def cutsB (s : ByteArray) (c : UInt8) : List ByteArray := (segsT c s.data.toList []).map fun l => ⟨l.toArray⟩
theorem cutI_free {s : ByteArray} {c : UInt8} (h : ¬ cutI s c < s.size) : ∀ x ∈ s.data.toList, x ≠ c := by
  intro x hx e
  subst e
  have h4 : cutI s x < s.data.toList.length := List.findIdx_lt_length_of_exists ⟨x, hx, by simp⟩
  exact h (by simpa using h4)
theorem cutA_free (s : ByteArray) (c : UInt8) : ∀ x ∈ (cutA s c).data.toList, x ≠ c := by
  intro x hx e
  subst e
  unfold cutA at hx
  rw [extract_list', List.drop_zero, Nat.sub_zero] at hx
  obtain ⟨i, hi, he⟩ := List.mem_iff_getElem.1 hx
  rw [List.length_take] at hi
  rw [List.getElem_take] at he
  have := List.not_of_lt_findIdx (p := (· == x)) (xs := s.data.toList) (show i < cutI s x by omega)
  simp [he] at this
theorem cutsB_no {s : ByteArray} {c : UInt8} (h : ¬ cutI s c < s.size) : cutsB s c = [s] := by
  unfold cutsB
  rw [segsT_last _ _ (cutI_free h)]
  rfl
theorem cutsB_yes {s : ByteArray} {c : UInt8} (h : cutI s c < s.size) : cutsB s c = cutA s c :: cutsB (cutB s c) c := by
  have e : s.data.toList = (cutA s c).data.toList ++ c :: (cutB s c).data.toList := by
    conv => lhs; rw [cut_back (show cutF s c = true by unfold cutF; exact decide_eq_true h)]
    simp
  unfold cutsB
  rw [e, segsT_next _ _ _ (cutA_free s c)]
  rfl
theorem segsT_sum (c : UInt8) : ∀ (l cur x : List UInt8), x ∈ segsT c l cur → x.length ≤ cur.length + l.length
  | [], cur, x, h => by simp [segsT] at h; simp [h]
  | b :: l, cur, x, h => by
    rw [segsT] at h
    split at h
    · rcases List.mem_cons.1 h with rfl | h
      · simp
      · have := segsT_sum c l [] x h
        simp at this ⊢; omega
    · have := segsT_sum c l _ x h
      simp at this ⊢; omega
theorem cutsB_size {s x : ByteArray} {c : UInt8} (h : x ∈ cutsB s c) : x.size ≤ s.size := by
  obtain ⟨l, hl, rfl⟩ := List.mem_map.1 h
  have := segsT_sum c _ _ _ hl
  show l.toArray.size ≤ s.size
  simpa using this
end Go.Proofs.YtojgjejbhcjifaaGreatDoor

/- strings.SplitSeq at one byte: the iterator's contract. -/
namespace Go.Proofs.YtojgjejbhcjifaaGreatDoor
set_option linter.unusedVariables false
open Go.RowKit Go.Shelf
attribute [local go_sem] Oper.semAt_some

/-- How much of the text is left: read off the box. -/
def leftC (c : Nat) (W : World) : Nat := match W.cell? ⟨c, 0, none⟩ with | some (.string s) => s.size | _ => 0
theorem leftC_eq {c : Nat} {W : World} {t : TypeId} {s : ByteArray} (h : Boxed W c t (.string s)) : leftC c W = s.size := by unfold leftC; rw [h.cell]
theorem boxKeep {W W' : World} {B c : Nat} {t : TypeId} {v : Value} (h : Boxed W B t v) (hk : KeepC c W W') (h1 : c ≤ B) (h2 : B < c + 3) : Boxed W' B t v := (hk B h1 h2).trans h
theorem boxPut {W : World} {B B' : Nat} {t : TypeId} {v x : Value} (h : Boxed W B t v) (hne : B ≠ B') : Boxed (W.setCell ⟨B', 0, none⟩ x) B t v := h.kept (grownBy_setCell' W _ x) (fun e => by cases e; exact hne rfl)
theorem boxBelow {n₀ : Nat} {W W' : World} {B : Nat} {t : TypeId} {v : Value} (h : Boxed W B t v) (hb : Below n₀ W W') (hl : B < n₀) : Boxed W' B t v := (hb.block B hl).trans h

end Go.Proofs.YtojgjejbhcjifaaGreatDoor

/- strings.SplitSeq: the function value it hands back. -/
namespace Go.Proofs.YtojgjejbhcjifaaGreatDoor
set_option linter.unusedVariables false
open Go.RowKit Go.Shelf

/-- The world behind strings.SplitSeq: three boxes. -/
def seqW (s sep : ByteArray) (w : World) : World := ((w.alloc (.cells #[.string s] 9)).alloc (.cells #[.string sep] 9)).alloc (.cells #[.int .i64 0] 3)
def seqF (c : Nat) : Value := .func (.func 94) #[] #[.pointer (some ⟨c + 1, 0, none⟩), .pointer (some ⟨c, 0, none⟩), .pointer (some ⟨c + 2, 0, none⟩)]
theorem splitSeq_c (s sep : ByteArray) (w : World) : Calls Tryz.prog 70 #[.string s, .string sep, .int .i64 0] w fun e w' => e = .returned (seqF w.heap.size) ∧ w' = seqW s sep w := by
  go_enter Tryz.func70, Tryz.ntmps70
  go_wp2
  go_ret
  exact ⟨rfl, rfl⟩
theorem SplitSeq_c (s sep : ByteArray) (w : World) : Calls Tryz.prog 45 #[.string s, .string sep] w fun e w' => e = .returned (seqF w.heap.size) ∧ w' = seqW s sep w := by
  go_enter Tryz.func45, Tryz.ntmps45
  go_wp2_with fail
  refine (splitSeq_c s sep _).mono ?_
  rintro e w1 ⟨rfl, rfl⟩
  go_wp2
  go_ret
  exact ⟨rfl, rfl⟩
theorem seqW_size (s sep : ByteArray) (w : World) : (seqW s sep w).heap.size = w.heap.size + 3 := by simp [seqW]
theorem seqW_below (s sep : ByteArray) (w : World) : Below w.heap.size w (seqW s sep w) := (((Below.refl _ w).alloc (Nat.le_refl _) _).alloc (by simp) _).alloc (by simp; omega) _
theorem seqW_boxes (s sep : ByteArray) (w : World) : Boxed (seqW s sep w) w.heap.size 9 (.string s) ∧ Boxed (seqW s sep w) (w.heap.size + 1) 9 (.string sep) ∧ Boxed (seqW s sep w) (w.heap.size + 2) 3 (.int .i64 0) := by
  have h1 := Boxed.new w 9 (.string s)
  have h2 := Boxed.new (w.alloc (.cells #[.string s] 9)) 9 (.string sep)
  have h3 := Boxed.new ((w.alloc (.cells #[.string s] 9)).alloc (.cells #[.string sep] 9)) 3 (.int .i64 0)
  simp only [World.size_alloc] at h2 h3
  exact ⟨(h1.alloc _).alloc _, h2.alloc _, h3⟩
end Go.Proofs.YtojgjejbhcjifaaGreatDoor

/- strings.SplitSeq at one byte: the iterator's contract where the loop's body may leave. -/
namespace Go.Proofs.YtojgjejbhcjifaaGreatDoor
set_option linter.unusedVariables false
open Go.RowKit Go.Shelf
attribute [local go_sem] Oper.semAt_some

set_option maxRecDepth 100000 in
set_option maxHeartbeats 1000000 in
theorem splitSeq1L_c (n : Nat) (hn : 1 ≤ n) (s : ByteArray) (b : UInt8) (hs : s.size ≤ 4000000000) (c : Nat) (ts ti : TypeId) (w : World)
    (h1 : Boxed w c ts (.string s)) (h2 : Boxed w (c + 1) ts (.string ⟨#[b]⟩)) (h3 : Boxed w (c + 2) ti (.int .i64 0)) :
    SeqL Fence.wide n Tryz.prog 94 #[.pointer (some ⟨c + 1, 0, none⟩), .pointer (some ⟨c, 0, none⟩), .pointer (some ⟨c + 2, 0, none⟩)] Value.string c (cutsB s b) w := by
  intro l J L W hW hJ hY h0
  have b1 : Boxed W c ts (.string s) := boxBelow h1 hW h1.lt
  have b2 : Boxed W (c + 1) ts (.string ⟨#[b]⟩) := boxBelow h2 hW h2.lt
  have b3 : Boxed W (c + 2) ti (.int .i64 0) := boxBelow h3 hW h3.lt
  have hsep : (⟨#[b]⟩ : ByteArray).size = 1 := rfl
  refine callsIn_of_wp Tryz.func94 rfl trivial ?_ rfl
  simp only [Tryz.ntmps94, List.size_toArray, List.length_cons, List.length_nil, Nat.reduceAdd, Nat.reduceSub, Array.replicate_succ, Array.replicate_zero, List.push_toArray, List.append_toArray, List.nil_append, List.cons_append]
  have c2 := b2.cell
  gi_wp2
  gi_loopw [] (fun wr => ∃ (pre : List ByteArray) (r : ByteArray), cutsB s b = pre ++ cutsB r b ∧ r.size ≤ s.size ∧ Boxed wr c ts (.string r) ∧ Boxed wr (c + 1) ts (.string ⟨#[b]⟩) ∧ Boxed wr (c + 2) ti (.int .i64 0) ∧ J pre wr)
    (fun wr => leftC c wr)
  case atStart =>
    exact ⟨[], s, rfl, Nat.le_refl _, b1, b2, b3, h0⟩
  case round =>
    obtain ⟨pre, r, hx, hr, d1, d2, d3, hJr⟩ := hrel
    have e1 := d1.cell
    have e2 := d2.cell
    have e3 := d3.cell
    by_cases hcut : cutI r b < r.size
    · have hseg := cutsB_yes hcut
      have hi : Lib.indexByte r.data.toList b = (cutI r b : Int) := idxB_yes hcut
      obtain ⟨fn, tmps, assign, body, hy, hR⟩ := hY pre (cutA r b) wr hJr ⟨cutsB (cutB r b) b, by rw [hx, hseg]; simp⟩
      unfold cutA at hy
      gi_wp2_with (refine ⟨trivial, ?_⟩; gi_at_call 77; refine (callsIn_wide.2 (Tryz.strings_Index_one r b wr)).mono ?_; rintro e w' ⟨rfl, rfl⟩; rw [hi])
      refine hR.mono ?_
      rintro e W3 (⟨rfl, hJ3, hk3⟩ | ⟨rfl, hL3⟩)
      · have g1 := boxKeep d1 hk3 (by omega) (by omega)
        have g2 := boxKeep d2 hk3 (by omega) (by omega)
        have g3 := boxKeep d3 hk3 (by omega) (by omega)
        have k1 := g1.cell
        have k2 := g2.cell
        have k3 := g3.cell
        have kf := g1.frozen
        gi_wp2
        have hb' : cutB r b = r.extract (cutI r b + 1) r.size := rfl
        rw [← hb']
        have z1 := g1.set (.string (cutB r b))
        refine ⟨⟨pre ++ [cutA r b], cutB r b, by rw [hx, hseg]; simp, Nat.le_trans (cutB_size r b) hr, z1, boxPut g2 (by omega), boxPut g3 (by omega), hJ _ _ _ hJ3 (grownBy_setCell' W3 c _)⟩, ?_⟩
        rw [leftC_eq z1, leftC_eq d1]
        unfold cutB
        rw [ByteArray.size_extract]
        omega
      · gi_wp2
        (try simp only [Exit.inBlock, Exit.then])
        refine bodyPost_ret (results_none rfl _ _ _) rfl ?_
        exact ⟨⟨_, rfl⟩, .inr hL3⟩
    · have hseg := cutsB_no hcut
      have hi : Lib.indexByte r.data.toList b = -1 := idxB_no hcut
      obtain ⟨fn, tmps, assign, body, hy, hR⟩ := hY pre r wr hJr (by rw [hx, hseg]; exact List.prefix_refl _)
      gi_wp2_with (refine ⟨trivial, ?_⟩; gi_at_call 77; refine (callsIn_wide.2 (Tryz.strings_Index_one r b wr)).mono ?_; rintro e w' ⟨rfl, rfl⟩; rw [hi])
      refine hR.mono ?_
      rintro e W3 (⟨rfl, hJ3, hk3⟩ | ⟨rfl, hL3⟩)
      · gi_wp2
        go_end0
        exact ⟨⟨_, rfl⟩, .inl (by rw [hx, hseg]; exact hJ3)⟩
      · gi_wp2
        go_end0
        exact ⟨⟨_, rfl⟩, .inr hL3⟩
end Go.Proofs.YtojgjejbhcjifaaGreatDoor

/- Elements of breakdowns and patterns, in plain words. No program in sight. -/
namespace Go.Proofs.YtojgjejbhcjifaaGreatDoor
set_option linter.unusedVariables false
open Go.RowKit

/-- A word of patterns. -/
def pwC (c : UInt8) : Bool := lowB c || digB c || decide (c.toNat = 39)
def trQ (s : ByteArray) : ByteArray := ⟨(Lib.trimS s.data.toList (⟨#[39]⟩ : ByteArray).data.toList).toArray⟩
def pwB (s : ByteArray) : Bool := decide (1 ≤ s.size) && decide (s.size ≤ 20) && !(trQ s).toList.isEmpty && allB pwC s
theorem pwB_no {s : ByteArray} (h : s.size < 1 ∨ 20 < s.size ∨ (trQ s).toList.isEmpty = true ∨ allB pwC s = false) : pwB s = false := by
  unfold pwB
  rcases h with h | h | h | h
  · rw [decide_eq_false (p := 1 ≤ s.size) (by omega)]; rfl
  · rw [decide_eq_false (p := s.size ≤ 20) (by omega)]; simp
  · rw [h]; simp
  · rw [h]; simp
theorem pwB_yes {s : ByteArray} (h1 : 1 ≤ s.size) (h2 : s.size ≤ 20) (h3 : (trQ s).toList.isEmpty = false) : pwB s = allB pwC s := by
  unfold pwB
  rw [decide_eq_true h1, decide_eq_true h2, h3]; rfl
/-- A part of a pattern. -/
structure Itm where
  any : Bool
  count : Bool
  begins : Bool
  ws : List ByteArray
def Itm.none_ : Itm := ⟨false, false, false, []⟩
def cutStar (s : ByteArray) : ByteArray := s.extract 0 (s.size - 1)
/-- What a part says, and whether it is right. -/
def rdItm (s : ByteArray) : Itm × Bool :=
  if s.toList = [63] then (⟨true, false, false, []⟩, true)
  else if s.toList = [35] then (⟨false, true, false, []⟩, true)
  else if Lib.hasSuffix s.data.toList [42] = true then (⟨false, false, true, [cutStar s]⟩, pwB (cutStar s))
  else if (words s 124).all pwB = true then (⟨false, false, false, words s 124⟩, true) else (Itm.none_, false)
/-- A right pattern. -/
def partsP (p : ByteArray) : List ByteArray := words p 32
def itmW (s : ByteArray) : Bool := decide (0 < (rdItm s).1.ws.length)
def patB (p : ByteArray) : Bool := (partsP p).all (fun s => (rdItm s).2) && (partsP p).any itmW && decide ((partsP p).length ≤ 8)

/-- The count that a word is. -/
def numWs : List ByteArray := [⟨#[111, 110, 101]⟩, ⟨#[116, 119, 111]⟩, ⟨#[116, 104, 114, 101, 101]⟩, ⟨#[102, 111, 117, 114]⟩, ⟨#[102, 105, 118, 101]⟩, ⟨#[115, 105, 120]⟩, ⟨#[115, 101, 118, 101, 110]⟩, ⟨#[101, 105, 103, 104, 116]⟩, ⟨#[110, 105, 110, 101]⟩, ⟨#[116, 101, 110]⟩, ⟨#[101, 108, 101, 118, 101, 110]⟩, ⟨#[116, 119, 101, 108, 118, 101]⟩]
def zeroW : ByteArray := ⟨#[122, 101, 114, 111]⟩
end Go.Proofs.YtojgjejbhcjifaaGreatDoor

/- Where a pattern matches the words of a text, in plain words. No program in sight. -/
namespace Go.Proofs.YtojgjejbhcjifaaGreatDoor
set_option linter.unusedVariables false
open Go.RowKit

/-- The count that a word says. -/
def idxN (w : ByteArray) : Option Nat := numWs.findIdx? fun y => decide (y = w)
def byt0 (w : ByteArray) : UInt8 := w.data.toList.headD 0
def ok3 (w : ByteArray) : Bool := decide (1 ≤ w.size) && decide (w.size ≤ 3) && !decide ((byt0 w).toNat = 48) && allB digB w
def nmV (w : ByteArray) : Int := if ok3 w = true then (dval 0 w.data.toList : Int) else 0
def cntW (w : ByteArray) : Int := match idxN w with | some k => (k : Int) + 1 | none => nmV w
theorem ok3_parts {w : ByteArray} (h : ok3 w = true) : 1 ≤ w.size ∧ w.size ≤ 3 ∧ ¬ (byt0 w).toNat = 48 ∧ ∀ c ∈ w.data.toList, figC c = true := by
  unfold ok3 at h
  simp only [Bool.and_eq_true, decide_eq_true_eq, Bool.not_eq_true', decide_eq_false_iff_not] at h
  exact ⟨h.1.1.1, h.1.1.2, h.1.2, fun c hc => List.all_eq_true.1 h.2 c hc⟩
theorem ok3_yes {w : ByteArray} (h1 : 1 ≤ w.size) (h2 : w.size ≤ 3) (h3 : ¬ (byt0 w).toNat = 48) (h4 : allB digB w = true) : ok3 w = true := by
  unfold ok3
  rw [decide_eq_true h1, decide_eq_true h2, decide_eq_false h3, h4]; rfl
theorem ok3_no {w : ByteArray} (h : w.size < 1 ∨ 3 < w.size ∨ (byt0 w).toNat = 48 ∨ allB digB w = false) : ok3 w = false := by
  unfold ok3
  rcases h with h | h | h | h
  · rw [decide_eq_false (p := 1 ≤ w.size) (by omega)]; rfl
  · rw [decide_eq_false (p := w.size ≤ 3) (by omega)]; simp
  · rw [decide_eq_true h]; simp
  · rw [h]; simp
theorem dval_nil (a : Nat) : dval a [] = a := rfl
theorem dval3 {l : List UInt8} (hl : l.length ≤ 3) (hf : ∀ c ∈ l, figC c = true) : dval 0 l < 1000 := by
  match l, hl with
  | [], _ => decide
  | [a], _ =>
    have := figC_iff.1 (hf a (by simp))
    rw [dval_cons, dval_nil]; omega
  | [a, b], _ =>
    have := figC_iff.1 (hf a (by simp)); have := figC_iff.1 (hf b (by simp))
    rw [dval_cons, dval_cons, dval_nil]; omega
  | [a, b, c], _ =>
    have := figC_iff.1 (hf a (by simp)); have := figC_iff.1 (hf b (by simp)); have := figC_iff.1 (hf c (by simp))
    rw [dval_cons, dval_cons, dval_cons, dval_nil]; omega
  | _ :: _ :: _ :: _ :: _, h => simp at h
theorem lenB (w : ByteArray) : w.data.toList.length = w.size := rfl
theorem ok3_atoi {w : ByteArray} (h : ok3 w = true) : Lib.atoiAll w.data.toList = .ok (dval 0 w.data.toList : Int) := by
  obtain ⟨h1, h2, _, h4⟩ := ok3_parts h
  have hn : w.data.toList ≠ [] := by intro e; rw [← lenB, e] at h1; simp at h1
  exact atoi_digits hn h4 (by have := dval3 (by rw [lenB]; exact h2) h4; omega)
/-- A parse that ends well, its first byte a figure, went through figures alone. -/
theorem parse_figs : ∀ (l : List UInt8) (a u : Nat), Lib.parseUint10 a l = .ok u → ∀ c ∈ l, figC c = true
  | [], _, _, _ => by simp
  | c :: r, a, u, h => by
    simp only [Lib.parseUint10] at h
    split at h
    · rename_i hc
      split at h
      · cases h
      · split at h
        · cases h
        · intro x hx
          rcases List.mem_cons.1 hx with rfl | hx
          · exact figC_iff.2 hc
          · exact parse_figs r _ u h x hx
    · cases h
theorem atoi_figs {c : UInt8} {l : List UInt8} {n : Int} (h : Lib.atoiAll (c :: l) = .ok n) (h1 : 49 ≤ c.toNat) (h2 : c.toNat ≤ 57) : ∀ x ∈ c :: l, figC x = true := by
  unfold Lib.atoiAll at h
  have n1 : ¬ (c.toNat = 43 ∨ c.toNat = 45) := by omega
  simp only [if_neg n1] at h
  split at h
  · cases h
  · cases h
  · rename_i u hu
    unfold Lib.parseMag at hu
    rw [if_neg (by simp)] at hu
    exact parse_figs _ 0 u hu
/-- The reference's count: its list of words has "zero" in front. -/
def zeroNs : List ByteArray := zeroW :: numWs
def idxZ (w : ByteArray) : Option Nat := zeroNs.findIdx? fun y => decide (y = w)
theorem idxZ_yes {w : ByteArray} {k : Nat} (h : idxZ w = some k) (hk : 0 < k) : cntW w = k := by
  unfold idxZ zeroNs at h
  rw [List.findIdx?_cons] at h
  split at h
  · injection h with h; omega
  · rw [Option.map_eq_some_iff] at h
    obtain ⟨j, hj, rfl⟩ := h
    unfold cntW idxN
    rw [hj]
    simp
theorem idxZ_no {w : ByteArray} (h : idxZ w = none ∨ idxZ w = some 0) : cntW w = nmV w := by
  unfold idxZ zeroNs at h
  rw [List.findIdx?_cons] at h
  by_cases hz : zeroW = w
  · subst hz; decide
  · rw [if_neg (by simpa using hz)] at h
    have hn : idxN w = none := by
      unfold idxN
      rcases h with h | h
      · simpa using h
      · rw [Option.map_eq_some_iff] at h; obtain ⟨j, _, hj⟩ := h; omega
    unfold cntW; rw [hn]
theorem nmV_ok {w : ByteArray} {n : Int} (h : Lib.atoiAll w.data.toList = .ok n) (h1 : 49 ≤ (byt0 w).toNat) (h2 : (byt0 w).toNat ≤ 57) (h3 : w.size ≤ 3) : nmV w = n := by
  cases hw : w.data.toList with
  | nil => rw [hw] at h; cases h
  | cons c l =>
    rw [hw] at h
    have hb : byt0 w = c := by unfold byt0; rw [hw]; rfl
    rw [hb] at h1 h2
    have hf := atoi_figs h h1 h2
    have hz : 1 ≤ w.size := by rw [← lenB, hw]; simp
    have hok : ok3 w = true := ok3_yes hz h3 (by rw [hb]; omega) (by unfold allB; rw [hw]; exact List.all_eq_true.2 hf)
    have := ok3_atoi hok
    rw [hw, h] at this
    injection this with this
    unfold nmV
    rw [if_pos hok, hw, this]
theorem nmV_bad {w : ByteArray} (h : (∀ n, Lib.atoiAll w.data.toList ≠ .ok n) ∨ 3 < w.size ∨ (byt0 w).toNat < 49 ∨ 57 < (byt0 w).toNat) : nmV w = 0 := by
  unfold nmV
  rw [if_neg]
  intro hok
  obtain ⟨h1, h2, h3, h4⟩ := ok3_parts hok
  rcases h with h | h | h | h
  · exact h _ (ok3_atoi hok)
  · omega
  all_goals
    have hm : byt0 w ∈ w.data.toList := by
      unfold byt0
      cases hw : w.data.toList with
      | nil => have := lenB w; rw [hw] at this; simp at this; omega
      | cons c l => simp
    have := figC_iff.1 (h4 _ hm)
    omega

/-- A part of a pattern matches a word. -/
def fitI (x : Itm) (w : ByteArray) : Bool :=
  if x.any = true then true else if x.count = true then decide (0 < cntW w) else if x.begins = true then Lib.hasPrefix w.data.toList (x.ws.headD ByteArray.empty).data.toList else x.ws.any fun y => decide (y = w)
/-- The reference's: by the part's text. -/
def fitT (s w : ByteArray) : Bool :=
  if s.toList = [63] then true else if s.toList = [35] then decide (0 < cntW w) else if Lib.hasSuffix s.data.toList [42] = true then Lib.hasPrefix w.data.toList (cutStar s).data.toList else (words s 124).any fun y => decide (y = w)
theorem fitT_eq {s : ByteArray} (h : (rdItm s).2 = true) (w : ByteArray) : fitT s w = fitI (rdItm s).1 w := by
  unfold fitT
  unfold rdItm at h ⊢
  by_cases h1 : s.toList = [63]
  · simp [h1, fitI]
  rw [if_neg h1] at h ⊢
  by_cases h2 : s.toList = [35]
  · simp [h2, fitI]
  rw [if_neg h2] at h ⊢
  by_cases h3 : Lib.hasSuffix s.data.toList [42] = true
  · simp [h1, h2, h3, fitI]
  rw [if_neg h3] at h ⊢
  by_cases h4 : (words s 124).all pwB = true
  · simp [h1, h2, h3, h4, fitI]
  · rw [if_neg h4] at h; cases h
theorem cntI_eq {s : ByteArray} (h : (rdItm s).2 = true) : (rdItm s).1.count = decide (s.toList = [35]) := by
  unfold rdItm at h ⊢
  by_cases h1 : s.toList = [63]
  · rw [if_pos h1, h1]; rfl
  rw [if_neg h1] at h ⊢
  by_cases h2 : s.toList = [35]
  · rw [if_pos h2, decide_eq_true h2]
  rw [if_neg h2] at h ⊢
  rw [decide_eq_false h2]
  by_cases h3 : Lib.hasSuffix s.data.toList [42] = true
  · rw [if_pos h3]
  rw [if_neg h3] at h ⊢
  by_cases h4 : (words s 124).all pwB = true
  · rw [if_pos h4]
  · rw [if_neg h4] at h; cases h

/-- The program's hit: the count so far is c. -/
def hitF : List Itm → List ByteArray → Int → Option Int
  | [], _, c => some c
  | _ :: _, [], _ => none
  | x :: xs, w :: ws, c => if fitI x w = true then hitF xs ws (if x.count = true ∧ c = 0 then cntW w else c) else none
def hitA (p : List Itm) (ws : List ByteArray) (k : Nat) : Option Int := if ws.length < k + p.length then none else (hitF p (ws.drop k) 0).map fun c => max c 1
theorem hitF_step {p : List Itm} {ws : List ByteArray} {i j : Nat} (hi : i < p.length) (hj : j < ws.length) (c : Int) :
    hitF (p.drop i) (ws.drop j) c = if fitI p[i] ws[j] = true then hitF (p.drop (i + 1)) (ws.drop (j + 1)) (if p[i].count = true ∧ c = 0 then cntW ws[j] else c) else none := by
  rw [List.drop_eq_getElem_cons hi, List.drop_eq_getElem_cons hj]
  rfl
theorem hitF_end {p : List Itm} {i : Nat} (hi : ¬ i < p.length) (ws : List ByteArray) (c : Int) : hitF (p.drop i) ws c = some c := by
  rw [List.drop_eq_nil_of_le (by omega)]; rfl
/-- All hits behind a word. -/
def hitsAt (p : List Itm) (ws : List ByteArray) (k : Nat) : List (Nat × Int) :=
  if h : ws.length ≤ k ∨ p.length = 0 then [] else
    match hitA p ws k with
    | none => hitsAt p ws (k + 1)
    | some c => (k, c) :: hitsAt p ws (k + p.length)
termination_by ws.length - k
theorem hitsAt_end {p : List Itm} {ws : List ByteArray} {k : Nat} (h : ws.length ≤ k) : hitsAt p ws k = [] := by
  rw [hitsAt, dif_pos (.inl h)]
theorem hitsAt_no {p : List Itm} {ws : List ByteArray} {k : Nat} (h : k < ws.length) (hp : 1 ≤ p.length) (hn : hitA p ws k = none) : hitsAt p ws k = hitsAt p ws (k + 1) := by
  rw [hitsAt, dif_neg (by omega), hn]
theorem hitsAt_yes {p : List Itm} {ws : List ByteArray} {k : Nat} {c : Int} (h : k < ws.length) (hp : 1 ≤ p.length) (hn : hitA p ws k = some c) : hitsAt p ws k = (k, c) :: hitsAt p ws (k + p.length) := by
  rw [hitsAt, dif_neg (by omega), hn]
theorem hitsAt_over {p : List Itm} {ws : List ByteArray} (hp : 1 ≤ p.length) : ∀ (n k : Nat), ws.length - k = n → ws.length < k + p.length → hitsAt p ws k = []
  | 0, k, h, _ => hitsAt_end (by omega)
  | n + 1, k, h, ho => by
    rw [hitsAt_no (by omega) hp (by unfold hitA; rw [if_pos ho])]
    exact hitsAt_over hp n (k + 1) (by omega) (by omega)
/-- The reference's loop over the parts: whether all fit so far, and the count. -/
def refH : List ByteArray → List ByteArray → Bool → Int → Bool × Int
  | [], _, a, c => (a, c)
  | _ :: _, [], a, c => (a, c)
  | s :: ss, w :: ws, a, c => refH ss ws (a && fitT s w) (if s.toList = [35] ∧ c = 0 then cntW w else c)
theorem refH_step {p ws : List ByteArray} {i j : Nat} (hi : i < p.length) (hj : j < ws.length) (a : Bool) (c : Int) :
    refH (p.drop i) (ws.drop j) a c = refH (p.drop (i + 1)) (ws.drop (j + 1)) (a && fitT p[i] ws[j]) (if p[i].toList = [35] ∧ c = 0 then cntW ws[j] else c) := by
  rw [List.drop_eq_getElem_cons hi, List.drop_eq_getElem_cons hj]
  rfl
theorem refH_end {p : List ByteArray} {i : Nat} (hi : ¬ i < p.length) (ws : List ByteArray) (a : Bool) (c : Int) : refH (p.drop i) ws a c = (a, c) := by
  rw [List.drop_eq_nil_of_le (by omega)]; rfl
theorem refH_false : ∀ (p ws : List ByteArray) (c : Int), (refH p ws false c).1 = false
  | [], _, _ => rfl
  | _ :: _, [], _ => rfl
  | s :: ss, w :: ws, c => by rw [refH, Bool.false_and]; exact refH_false ss ws _
theorem refH_eq : ∀ (p ws : List ByteArray) (c : Int), (∀ s ∈ p, (rdItm s).2 = true) → p.length ≤ ws.length →
    (match hitF (p.map fun s => (rdItm s).1) ws c with | some d => refH p ws true c = (true, d) | none => (refH p ws true c).1 = false)
  | [], _, c, _, _ => rfl
  | _ :: _, [], _, _, h => by simp at h
  | s :: ss, w :: ws, c, hp, hl => by
    have hs := hp s (by simp)
    rw [refH, List.map_cons, hitF, Bool.true_and, fitT_eq hs]
    cases hf : fitI (rdItm s).1 w with
    | false =>
      rw [if_neg (by simp)]
      exact refH_false ss ws _
    | true =>
      rw [if_pos rfl]
      have e : (if (rdItm s).1.count = true ∧ c = 0 then cntW w else c) = if s.toList = [35] ∧ c = 0 then cntW w else c := by
        rw [cntI_eq hs]; simp only [decide_eq_true_eq]
      rw [e]
      exact refH_eq ss ws _ (fun x hx => hp x (by simp [hx])) (by simp at hl; omega)
/-- The reference's hit at a word. -/
def refA (p ws : List ByteArray) (k : Nat) : Option Int := if (refH p (ws.drop k) true 0).1 = true then some (max (refH p (ws.drop k) true 0).2 1) else none
theorem refA_eq {p ws : List ByteArray} {k : Nat} (hp : ∀ s ∈ p, (rdItm s).2 = true) (hk : k + p.length ≤ ws.length) : hitA (p.map fun s => (rdItm s).1) ws k = refA p ws k := by
  have h := refH_eq p (ws.drop k) 0 hp (by rw [List.length_drop]; omega)
  unfold hitA refA
  rw [if_neg (by rw [List.length_map]; omega)]
  cases hf : hitF (p.map fun s => (rdItm s).1) (ws.drop k) 0 with
  | none => rw [hf] at h; rw [if_neg (by rw [h]; simp)]; rfl
  | some d => rw [hf] at h; rw [if_pos (by rw [h]), h]; rfl
end Go.Proofs.YtojgjejbhcjifaaGreatDoor

/- Patterns in plain words: the parts between blanks; parts in memory. No program in sight. -/
namespace Go.Proofs.YtojgjejbhcjifaaGreatDoor
set_option linter.unusedVariables false
open Go.RowKit

theorem words_yes {s : ByteArray} {c : UInt8} (h : cutI s c < s.size) : words s c = cutA s c :: words (cutB s c) c := by
  have hix : Lib.indexB s ⟨#[c]⟩ = ((cutI s c : Nat) : Int) := (Lib.index_one s.data.toList c).trans (idxB_yes h)
  have hc := Lib.countB_hit s ⟨#[c]⟩ _ (Nat.le_refl 1) hix
  have e2 : s.extract (cutI s c + (⟨#[c]⟩ : ByteArray).size) s.size = cutB s c := rfl
  rw [e2, Nat.add_comm] at hc
  unfold words
  rw [hc, Lib.splitB_hit _ 0 _ _ _ hix, e2]
  rfl
theorem words_no {s : ByteArray} {c : UInt8} (h : ¬ cutI s c < s.size) : words s c = [s] := by
  have hix : Lib.indexB s ⟨#[c]⟩ = -1 := (Lib.index_one s.data.toList c).trans (idxB_no h)
  unfold words
  rw [Lib.countB_miss s _ hix]
  rfl
theorem cuts_words (c : UInt8) : ∀ (n : Nat) (s : ByteArray), s.size ≤ n → cutsB s c = words s c
  | n, s, hn => by
    by_cases h : cutI s c < s.size
    · have hz : (cutB s c).size < s.size := by unfold cutB; rw [ByteArray.size_extract]; omega
      match n, hn with
      | 0, hn => omega
      | n + 1, hn => rw [cutsB_yes h, words_yes h, cuts_words c n (cutB s c) (by omega)]
    · rw [cutsB_no h, words_no h]
theorem parts_cuts (p : ByteArray) : cutsB p 32 = partsP p := cuts_words 32 p.size p (Nat.le_refl _)

/-- Parts of a pattern in memory: three Booleans and a row of words. -/
def itmR : Rep Itm :=
  ⟨4, fun w F x cs => ∃ v, cs = [.bool x.any, .bool x.count, .bool x.begins, v] ∧ Sli strR w F x.ws v, fun h => by obtain ⟨v, rfl, _⟩ := h; rfl, fun h hk => by obtain ⟨v, e, h⟩ := h; exact ⟨v, e, h.keep hk⟩, fun h hk => by obtain ⟨v, e, h⟩ := h; exact ⟨v, e, h.more hk⟩⟩
/-- Blocks of cells of one's own, from lo on, but for the row's. -/
def cellF (W : World) (lo : Nat) (v : Value) (b : Nat) : Prop := lo ≤ b ∧ v.ownBlock ≠ some b ∧ ∃ o : Obj, W.heap[b]? = some o ∧ o.isCells = true
theorem cellF.lt {W : World} {lo b : Nat} {v : Value} (h : cellF W lo v b) : b < W.heap.size := by obtain ⟨_, _, o, ho, _⟩ := h; exact (Array.getElem?_eq_some_iff.1 ho).1
theorem cellF.to {W W' : World} {lo b : Nat} {v v' : Value} (h : cellF W lo v b) (hk : W'.heap[b]? = W.heap[b]?) (hv : v'.ownBlock ≠ some b) : cellF W' lo v' b := ⟨h.1, hv, by rw [hk]; exact h.2.2⟩
/-- A row of parts of one's own. -/
def PatR (lo : Nat) (e : TypeId) (l : List Itm) (v : Value) (W : World) : Prop := ∃ xs, W.ownsRow lo e 4 v l.length xs ∧ Lay itmR W (cellF W lo v) l xs
theorem PatR.nil_ (lo : Nat) (e : TypeId) (W : World) : PatR lo e [] (.slice none 0 0) W := ⟨[], World.ownsRow_nil _ _ _ _, Lay.nil_⟩
theorem rowCells {W : World} {lo : Nat} {e : TypeId} {size k g : Nat} {v : Value} {xs : List Value} (h : W.ownsRow lo e size v k xs) (hv : v.ownBlock = some g) : lo ≤ g ∧ ∃ o : Obj, W.heap[g]? = some o ∧ o.isCells = true := by
  rcases h.2 with ⟨rfl, _⟩ | ⟨g', cap, cur, rfl, hb, hg, _⟩
  · simp [Value.ownBlock] at hv
  · obtain rfl : g' = g := by simpa [Value.ownBlock] using hv
    exact ⟨hb, _, hg, rfl⟩
section
variable {lo : Nat} {e : TypeId} {l : List Itm} {v v' : Value} {W W' : World}
theorem PatR.grown {row : Option Nat} (h : PatR lo e l v W) (hg : W.grownBy W' row) (hr : ∀ b, row = some b → b < lo ∨ ∃ o : Obj, W.heap[b]? = some o ∧ o.isCells = false) : PatR lo e l v W' := by
  obtain ⟨xs, ho, hl⟩ := h
  have hne : ∀ b, cellF W lo v b → W'.heap[b]? = W.heap[b]? := fun b hb => hg.block b hb.lt (fun e => by
    rcases hr b e.symm with h | ⟨o, h, hc⟩
    · have := hb.1; omega
    · obtain ⟨_, _, o2, h2, hc2⟩ := hb
      rw [h] at h2; cases h2; rw [hc] at hc2; cases hc2)
  refine ⟨xs, ho.kept hg ?_, (hl.keep hne).more fun b hb => hb.to (hne b hb) hb.2.1⟩
  cases hv : v.ownBlock with
  | none => exact .inl rfl
  | some g =>
    refine .inr fun e => ?_
    obtain ⟨h1, o2, h2, hc2⟩ := rowCells ho hv
    rcases hr g e.symm with h | ⟨o, h, hc⟩
    · omega
    · rw [h] at h2; cases h2; rw [hc] at hc2; cases hc2
theorem PatR.below (h : PatR lo e l v W) (hb : Below W.heap.size W W') : PatR lo e l v W' :=
  h.grown (row := none) ⟨hb.os, hb.tape, hb.output, hb.size, fun b hlt _ => hb.block b hlt⟩ (fun b e => by cases e)
theorem PatR.alloc (h : PatR lo e l v W) (o : Obj) : PatR lo e l v (W.alloc o) := h.below ((Below.refl _ W).alloc (Nat.le_refl _) o)
theorem PatR.setBox (h : PatR lo e l v W) {B : Nat} (u : Value) (hB : B < lo) : PatR lo e l v (W.setCell ⟨B, 0, none⟩ u) := h.grown (grownBy_setCell' W B u) (fun b e => by cases e; exact .inl hB)
/-- One part more. -/
theorem PatR.push {x : Itm} {vx : Value} {xs : List Value} (hl : Lay itmR W (cellF W lo v) l xs) (hx : Sli strR W (cellF W lo v) x.ws vx)
    (ho : W'.ownsRow lo e 4 v' (l.length + 1) (xs ++ [.bool x.any, .bool x.count, .bool x.begins, vx])) (hg : W.grownBy W' v.ownBlock) (hat : v'.ownBlock = v.ownBlock ∨ v'.ownBlock = some W.heap.size) : PatR lo e (l ++ [x]) v' W' := by
  have hk : ∀ b, cellF W lo v b → W'.heap[b]? = W.heap[b]? := fun b hb => hg.block b hb.lt (fun e => hb.2.1 e.symm)
  have hF : ∀ b, cellF W lo v b → cellF W' lo v' b := fun b hb => hb.to (hk b hb) (by
    rcases hat with h | h
    · rw [h]; exact hb.2.1
    · rw [h]; intro e; injection e with e; have := hb.lt; omega)
  have hs : itmR.rel W (cellF W lo v) x [.bool x.any, .bool x.count, .bool x.begins, vx] := ⟨vx, rfl, hx⟩
  exact ⟨_, by simpa using ho, ((hl.snoc hs).keep hk).more hF⟩
/-- What it reads as. -/
theorem PatR.sli {F : Nat → Prop} (h : PatR lo e l v W) (hF : ∀ b, lo ≤ b → b < W.heap.size → F b) : Sli itmR W F l v := by
  obtain ⟨xs, ho, hl⟩ := h
  refine Sli.own (R := itmR) ho (hl.more fun b hb => hF b hb.1 hb.lt) rfl (fun b c hv => ?_)
  obtain ⟨h1, o, h2, _⟩ := rowCells (g := b) ho (by rw [hv]; rfl)
  exact hF b h1 (Array.getElem?_eq_some_iff.1 h2).1
end
end Go.Proofs.YtojgjejbhcjifaaGreatDoor

/- strings.Fields of a plain text: a list of one's own; R.WrapOf, walked. -/
namespace Go.Proofs.YtojgjejbhcjifaaGreatDoor
set_option linter.unusedVariables false
open Go.RowKit Go.Sort

/-- A row that has just been laid is one's own. -/
theorem Own.rowS (w : World) (T : TypeId) (l : List ByteArray) (hl : l.length ≤ maxLen) : Own strR (w.alloc (.cells (l.map Value.string).toArray T)) w.heap.size w.heap.size T l (.slice (some ⟨w.heap.size, 0, none⟩) l.length l.length) := by
  refine ⟨l.map Value.string, ⟨by rw [List.length_map]; show _ = _ * 1; rw [Nat.mul_one], .inr ⟨w.heap.size, l.length, (l.map Value.string).toArray, rfl, Nat.le_refl _, heap_alloc_new w _, Nat.le_refl _, hl, by simp; exact (Nat.mul_one _).symm, ?_⟩⟩, by rw [List.length_map]; show _ = _ * 1; rw [Nat.mul_one], fun k x hx => ?_⟩
  · show (l.map Value.string).take (l.length * 1) = _
    rw [Nat.mul_one, List.take_of_length_le (by rw [List.length_map]; exact Nat.le_refl _)]
  · show ((l.map Value.string).drop (k * 1)).take 1 = [.string x]
    obtain ⟨hk, rfl⟩ := List.getElem?_eq_some_iff.1 hx
    rw [Nat.mul_one, List.drop_eq_getElem_cons (by rw [List.length_map]; exact hk), List.take_succ_cons, List.take_zero, List.getElem_map]
def wordsB (s : ByteArray) : List ByteArray := (wordsA s.data.toList []).map mkB
theorem fields_c (s : ByteArray) (w : World) (hs : s.size ≤ 4000000000) (hp : ∀ x ∈ s.data.toList, prB x = true) (hsp : SpLaid w) :
    Calls Tryz.prog 58 #[.string s] w fun e w' => ∃ v, e = .returned v ∧ Below w.heap.size w w' ∧ Own strR w' w.heap.size w.heap.size 9 (wordsB s) v := by
  have hfw : Lib.fields s.data.toList = wordsA s.data.toList [] := fields_words _ _ hp
  refine (Tryz.strings_Fields_laid s w (by omega) (fun j b hj => by
    have h := hp b (List.mem_of_getElem? hj)
    simp [prB] at h
    omega) hsp).mono ?_
  rintro e w' ⟨rfl, rfl⟩
  rw [hfw]
  have hwl : (wordsA s.data.toList []).length ≤ s.size := by
    have h := wordsA_len s.data.toList []
    simpa using h
  refine ⟨_, rfl, (Below.refl _ _).alloc (Nat.le_refl _) _, ?_⟩
  unfold wordsB
  generalize wordsA s.data.toList [] = ws at *
  rw [show List.map (fun l => Value.string (⟨l.toArray⟩ : ByteArray)) ws = (ws.map mkB).map Value.string by rw [List.map_map]; rfl]
  have hlen : (ws.map mkB).length = ws.length := List.length_map _
  rw [← hlen]
  exact Own.rowS w 9 (ws.map mkB) (by rw [hlen]; unfold maxLen; omega)
end Go.Proofs.YtojgjejbhcjifaaGreatDoor

