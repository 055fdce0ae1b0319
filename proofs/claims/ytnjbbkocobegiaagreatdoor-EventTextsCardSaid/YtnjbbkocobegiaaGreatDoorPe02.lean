/- Texts packed: AtoiW, BldW, LawA, RefA, Str, CutS, DecW, GenC, NumS. -/
import Derived.Test.YtnjbbkocobegiaaGreatDoorRows
import Derived.Test.YtnjbbkocobegiaaGreatDoorPe01
import Derived.Lib.SmallJoins
import Derived.Shelf.Strconv.AtoiAll
import Derived.Shelf.Strings.SlTrimAscii
import Derived.Laws.IdiomStrings
import Derived.Lib.QuietBelow
import Derived.BigQuiet
import Derived.Lib.IndexLaws
import Derived.Shelf.Strconv.Itoa3
import Derived.Lib.Strings
import Derived.Lib.ItoaNum
/- strconv.Atoi at every string: one contract with its three ends. -/
namespace Go.Proofs.YtnjbbkocobegiaaGreatDoor
set_option linter.unusedVariables false
open Go.RowKit

/-- The library's two errors lie where they were laid. -/
def ErrsLaid (w : World) : Prop := (∃ t p, w.cell? ⟨2, 0, none⟩ = some (.iface t p)) ∧ (∃ t p, w.cell? ⟨3, 0, none⟩ = some (.iface t p)) ∧ 2 < w.heap.size ∧ 3 < w.heap.size
theorem ErrsLaid.keep {w w' : World} (h : ErrsLaid w) (hs : w.heap.size ≤ w'.heap.size) (h1 : w'.cell? ⟨2, 0, none⟩ = w.cell? ⟨2, 0, none⟩) (h2 : w'.cell? ⟨3, 0, none⟩ = w.cell? ⟨3, 0, none⟩) : ErrsLaid w' :=
  ⟨by rw [h1]; exact h.1, by rw [h2]; exact h.2.1, by have := h.2.2.1; omega, by have := h.2.2.2; omega⟩
theorem ErrsLaid.below {w w' : World} {B : Nat} (h : ErrsLaid w) (hb : Below B w w') (hB : w.heap.size ≤ B) : ErrsLaid w' :=
  h.keep hb.size (hb.cell (Nat.lt_of_lt_of_le h.2.2.1 hB)) (hb.cell (Nat.lt_of_lt_of_le h.2.2.2 hB))

/-- How Atoi ends: the number and the error. -/
def AtoiP (s : ByteArray) (n : Int) (ev : Value) : Prop :=
  (Lib.atoiAll s.data.toList = .ok n ∧ ev = .nilIface) ∨ ((∀ v, Lib.atoiAll s.data.toList ≠ .ok v) ∧ ∃ t N, ev = .iface t (.pointer (some ⟨N, 0, none⟩)))
def AtoiR (s : ByteArray) (w : World) (e : Ending) (w' : World) : Prop := ∃ n ev, AtoiP s n ev ∧ e = .returned (.tuple #[.int .i64 n, ev]) ∧ Below w.heap.size w w'
theorem atoi_c (s : ByteArray) (w : World) (hs : s.size ≤ 140737488355328) (hl : ErrsLaid w) : Calls Tryz.prog 90 #[.string s] w (AtoiR s w) := by
  obtain ⟨⟨t1, p1, h1⟩, ⟨t2, p2, h2⟩, _, _⟩ := hl
  cases h : Lib.atoiAll s.data.toList
  case ok v =>
    refine (Any.strconv_Atoi_ok Tryz.laysC172 s (by omega) v h w).mono ?_
    rintro e w' ⟨he, hw⟩
    refine ⟨v, _, .inl ⟨h, rfl⟩, he, ?_⟩
    rcases hw with rfl | ⟨t, rfl⟩
    · exact Below.refl _ _
    · exact Joins.below_bytesWorld _ _ _ _ (Nat.le_refl _)
  · refine (Any.strconv_Atoi_syntax Tryz.laysC172 s (by omega) h _ w h1 (.inr ⟨_, _, rfl⟩)).mono ?_
    rintro e w' ⟨N, he, _, _, hb⟩
    exact ⟨_, _, .inr ⟨(fun v hv => by rw [h] at hv; cases hv), _, _, rfl⟩, he, hb⟩
  · refine (Any.strconv_Atoi_range Tryz.laysC172 s (by omega) h _ w h2 (.inr ⟨_, _, rfl⟩)).mono ?_
    rintro e w' ⟨N, he, _, _, hb⟩
    exact ⟨_, _, .inr ⟨(fun v hv => by rw [h] at hv; cases hv), _, _, rfl⟩, he, hb⟩
end Go.Proofs.YtnjbbkocobegiaaGreatDoor

/- strings.Builder written, and strings.Join: the library's contracts at this program. -/
namespace Go.Proofs.YtnjbbkocobegiaaGreatDoor
set_option linter.unusedVariables false
open Go.RowKit

/-- A builder of the call's own, whose block is B, that holds the bytes l. -/
def Bld (w : World) (B : Nat) (l : List UInt8) : Prop := Lib.IsBuilder 98 5 B B (Lib.byteCells l) w
theorem Bld.new (w : World) : Bld (w.alloc (.cells #[.pointer none, .slice none 0 0] 98)) w.heap.size [] := Lib.fresh_isBuilder _ _ w
theorem Bld.lt {w : World} {B : Nat} {l : List UInt8} (h : Bld w B l) : B < w.heap.size := by
  rcases h with h | h
  · exact h.lt
  · exact h.lt
theorem Bld.keep {w w' : World} {B : Nat} {l : List UInt8} (h : Bld w B l) (hk : ∀ b, B ≤ b → b < w.heap.size → w'.heap[b]? = w.heap[b]?) : Bld w' B l := by
  have one : ∀ p, Lib.BuilderAt 98 5 B B p (Lib.byteCells l) w → Lib.BuilderAt 98 5 B B p (Lib.byteCells l) w' := by
    rintro p ⟨hB, v, hb, ho, hne⟩
    refine ⟨hB, v, (hk B (Nat.le_refl _) (Array.getElem?_eq_some_iff.1 hb).1).trans hb, ⟨ho.1, ?_⟩, hne⟩
    rcases ho.2 with hn | ⟨g, cap, cur, rfl, hg0, hg, rest⟩
    · exact .inl hn
    · exact .inr ⟨g, cap, cur, rfl, hg0, (hk g hg0 (Array.getElem?_eq_some_iff.1 hg).1).trans hg, rest⟩
  rcases h with h | h
  · exact .inl (one _ h)
  · exact .inr (one _ h)
theorem Bld.below {w w' : World} {B : Nat} {l : List UInt8} (h : Bld w B l) (hb : Below w.heap.size w w') : Bld w' B l := h.keep fun b _ hlt => hb.block b hlt
theorem Bld.alloc {w : World} {B : Nat} {l : List UInt8} (h : Bld w B l) (o : Obj) : Bld (w.alloc o) B l := h.keep fun b _ hlt => Below.heap_alloc w o b hlt
theorem Bld.drew {w : World} {B : Nat} {l : List UInt8} (h : Bld w B l) : Bld w.drew B l := h
theorem write_c (B : Nat) (l : List UInt8) (s : ByteArray) (w : World) (h : Bld w B l) (hlen : l.length + s.size ≤ 140737488355328) :
    Calls Tryz.prog 53 #[.pointer (some ⟨B, 0, none⟩), .string s] w fun e w' => e = .returned (.tuple #[.int .i64 s.size, .nilIface]) ∧ (Bld w' B (l ++ s.data.toList) ∧ Below B w w') := by
  refine (Any.Builder_WriteString { Tryz.lays156 with } Tryz.Builder_Extra_156 B B (Lib.byteCells l) s w h (by rw [Lib.byteCells_length]; exact hlen) (Nat.le_of_lt h.lt)).mono ?_
  rintro e w' ⟨he, h1, h2⟩
  refine ⟨he, .inr ?_, h2⟩
  rw [Lib.strCells_eq, ← Lib.byteCells_append] at h1
  exact h1
theorem text_c (B : Nat) (l : List UInt8) (w : World) (h : Bld w B l) :
    Calls Tryz.prog 57 #[.pointer (some ⟨B, 0, none⟩)] w fun e w' => e = .returned (.string ⟨l.toArray⟩) ∧ Below B w w' :=
  Tryz.Builder_String_any B B l w h (Nat.le_of_lt h.lt)
/-- strings.Join of words in memory. -/
theorem join_c (l : List ByteArray) (sep : ByteArray) (v : Value) (F : Nat → Prop) (w : World) (hv : Sli strR w F l v) (hF : ∀ b, F b → b < w.heap.size) (hlen : (Lib.join (l.map (·.data.toList)) sep.data.toList).length ≤ 140737488355328) (hN : l.length ≤ 140737488355328) :
    Calls Tryz.prog 54 #[v, .string sep] w fun e w' => e = .returned (.string ⟨(Lib.join (l.map (·.data.toList)) sep.data.toList).toArray⟩) ∧ Below w.heap.size w w' := by
  obtain ⟨A, c, rfl, h1, h2, h3⟩ := hv
  by_cases h0 : 0 < l.length
  · obtain ⟨b, off, cs, rfl, hb, hl, hc⟩ := h3 h0
    refine Any.strings_Join Tryz.lays156 Tryz.Builder_Extra_156 b off c l sep w (fun j x hx => ?_) (hF b hb) hN h1 hlen
    have h4 : (cs.drop (j * 1)).take 1 = [.string x] := hl.2 j x hx
    refine hc j _ ?_
    have h5 : ((cs.drop (j * 1)).take 1)[0]? = some (.string x) := by rw [h4]; rfl
    rw [List.getElem?_take, if_pos (by decide), List.getElem?_drop] at h5
    simpa using h5
  · have : l = [] := List.length_eq_zero_iff.1 (by omega)
    subst this
    exact (Any.strings_Join_none Tryz.lays156 Tryz.Builder_Extra_156 A c sep w).mono fun e w' ⟨he, hw⟩ => ⟨he, hw ▸ Below.refl _ _⟩
/-- .. its result behind a name. -/
theorem joinX (l : List ByteArray) (sep X : ByteArray) (v : Value) (F : Nat → Prop) (w : World) (hX : (⟨(Lib.join (l.map (·.data.toList)) sep.data.toList).toArray⟩ : ByteArray) = X) (hs : X.size ≤ 140737488355328) (hv : Sli strR w F l v) (hF : ∀ b, F b → b < w.heap.size) (hN : l.length ≤ 140737488355328) :
    Calls Tryz.prog 54 #[v, .string sep] w fun e w' => e = .returned (.string X) ∧ Below w.heap.size w w' := by
  subst hX
  exact join_c l sep v F w hv hF (by simpa [ByteArray.size] using hs) hN
theorem strLit (w : World) (l : List ByteArray) (cs : Array Value) (T n : Nat) (hcs : cs = (l.map Value.string).toArray) (hn : n = l.length) (hm : n ≤ 1000) : Sli strR (w.alloc (.cells cs T)) (fun b => b = w.heap.size) l (.slice (some ⟨w.heap.size, 0, none⟩) n n) := by
  subst hcs; subst hn
  refine Sli.new T l.length ⟨by rw [List.length_map]; show _ = _ * 1; omega, fun k x hx => ?_⟩ rfl (Nat.le_refl _) (by omega)
  show ((l.map Value.string).drop (k * 1)).take 1 = [.string x]
  obtain ⟨hk, rfl⟩ := List.getElem?_eq_some_iff.1 hx
  rw [Nat.mul_one, List.drop_eq_getElem_cons (by rw [List.length_map]; exact hk), List.take_succ_cons, List.take_zero, List.getElem_map]
end Go.Proofs.YtnjbbkocobegiaaGreatDoor

/- What a law's walk ends with. No law in sight. -/
namespace Go.Proofs.YtnjbbkocobegiaaGreatDoor
set_option linter.unusedVariables false
open Go.RowKit

theorem strNew (w : World) (A : Option Addr) (l : List Int) (c : Nat) (hr : Rs w 0 w.heap.size 1 intc A l) (hl : l.length ≤ 17592186044416) (ho : ∀ x ∈ l, okI x) :
    Str (w.alloc (.cells #[.slice A l.length c, .int .i64 0] 25)) w.heap.size 0 :=
  ⟨A, c, l, heap_alloc_new w _, Int.le_refl _, hr.alloc (Nat.le_refl _) _, hl, ho⟩
theorem gEnd {w w1 : World} {o : Obj} (h : (w.alloc o).grownBy w1 (some w.heap.size)) : Below w.heap.size w w1 :=
  ⟨h.os, h.tape, h.output, by have := h.size; simp at this; omega, fun i hi => (h.block i (by simp; omega) (by simp; omega)).trans (Below.heap_alloc w _ i hi)⟩
theorem gLaid {w w1 : World} {o : Obj} (h : (w.alloc o).grownBy w1 (some w.heap.size)) (hl : ErrsLaid w) : ErrsLaid w1 :=
  hl.below (gEnd h) (Nat.le_refl _)
end Go.Proofs.YtnjbbkocobegiaaGreatDoor

/- The reference's small words on strings. -/
namespace Go.Proofs.YtnjbbkocobegiaaGreatDoor
set_option linter.unusedVariables false
open Go.RowKit

theorem trim_c (s cs : ByteArray) (w : World) (hs : s.size ≤ 140737488355328) (hcs : cs.size ≤ 1000) (ha : (cs.data.toList.all fun b => decide (b.toNat < 128)) = true) :
    Calls Tryz.prog 127 #[.string s, .string cs] w fun e w' => e = .returned (.string ⟨(Lib.trimS s.data.toList cs.data.toList).toArray⟩) ∧ Below w.heap.size w w' :=
  Any.strings_Trim_laid Tryz.lays160 (by kernel_rfl) s cs w (by omega) (by omega) (ascii_of_all ha)

theorem dropWhile_nil {p : UInt8 → Bool} {l : List UInt8} : l.dropWhile p = [] ↔ ∀ x ∈ l, p x = true := by
  induction l with
  | nil => simp
  | cons y l ih =>
    cases h : p y with
    | true => simp [h, ih]
    | false => simp [h]

theorem trimS_nil (l cs : List UInt8) : Lib.trimS l cs = [] ↔ l.all (cs.contains ·) = true := by
  unfold Lib.trimS Lib.trimLeftS Lib.trimRightS
  constructor
  · intro h
    have h1 : ∀ x ∈ (l.reverse.dropWhile (cs.contains ·)), cs.contains x = true := by
      have := dropWhile_nil.1 h
      simpa using this
    cases hd : l.reverse.dropWhile (cs.contains ·) with
    | nil =>
      have := dropWhile_nil.1 hd
      rw [List.all_eq_true]
      intro x hx
      exact this x (by simpa using hx)
    | cons y t =>
      have h2 := h1 y (by rw [hd]; simp)
      have h3 := List.head_dropWhile_not (p := (cs.contains ·)) (l := l.reverse) (by rw [hd]; simp)
      simp only [hd, List.head_cons] at h3
      rw [h3] at h2; cases h2
  · intro h
    rw [List.all_eq_true] at h
    have : l.reverse.dropWhile (cs.contains ·) = [] := dropWhile_nil.2 (fun x hx => h x (by simpa using hx))
    rw [this]; rfl

theorem toList_mk (l : List UInt8) : (⟨l.toArray⟩ : ByteArray).toList = l := by rw [ByteArray.toList_eq]

set_option maxHeartbeats 400000 in
theorem made_c (s cs : ByteArray) (w : World) (hs : s.size ≤ 140737488355328) (hcs : cs.size ≤ 1000) (ha : (cs.data.toList.all fun b => decide (b.toNat < 128)) = true) :
    Calls Tryz.prog 82 #[.string s, .string cs] w fun e w' => e = .returned (.bool (allB (cs.data.toList.contains ·) s)) ∧ Below w.heap.size w w' := by
  cases h : allB (cs.data.toList.contains ·) s with
  | true =>
    have h2 : (⟨(Lib.trimS s.data.toList cs.data.toList).toArray⟩ : ByteArray) = ⟨#[]⟩ := by rw [(trimS_nil _ _).2 h]
    have H := Lib.hid h2
    clear h2 h
    go_enter Tryz.func82, Tryz.ntmps82
    go_wp2_with fail
    refine (trim_c s cs _ hs hcs ha).mono ?_
    rintro e w' ⟨rfl, hb⟩
    rw [H.out]
    go_wp2
    go_ret
    exact ⟨rfl, hb⟩
  | false =>
    have h2 : (⟨(Lib.trimS s.data.toList cs.data.toList).toArray⟩ : ByteArray).toList.isEmpty = false := by
      rw [toList_mk]
      cases he : Lib.trimS s.data.toList cs.data.toList with
      | nil => rw [(trimS_nil _ _).1 he |> (show _ → allB (cs.data.toList.contains ·) s = true from id)] at h; cases h
      | cons y t => rfl
    have H := Lib.hid h2
    clear h2 h
    go_enter Tryz.func82, Tryz.ntmps82
    go_wp2_with fail
    refine (trim_c s cs _ hs hcs ha).mono ?_
    rintro e w' ⟨rfl, hb⟩
    generalize (⟨(Lib.trimS s.data.toList cs.data.toList).toArray⟩ : ByteArray) = t at H ⊢
    have h2 := H.out
    go_wp2
    go_ret
    exact ⟨rfl, hb⟩

set_option maxHeartbeats 400000 in
theorem long_c (s : ByteArray) (lo hi : Int) (w : World) (hs : s.size ≤ 140737488355328) :
    Calls Tryz.prog 80 #[.string s, .int .i64 lo, .int .i64 hi] w fun e w' => e = .returned (.bool (decide (lo ≤ s.size) && decide ((s.size : Int) ≤ hi))) ∧ w = w' := by
  by_cases h1 : lo ≤ (s.size : Int)
  all_goals
    go_enter Tryz.func80, Tryz.ntmps80
    go_wp2
    go_ret
    exact ⟨ret_bool (by first | (simp [h1]; done) | (simp; omega)), rfl⟩
end Go.Proofs.YtnjbbkocobegiaaGreatDoor

/- Small laws on strings and bytes. No program in sight. -/
namespace Go.Proofs.YtnjbbkocobegiaaGreatDoor
set_option linter.unusedVariables false
open Go.RowKit

/-- 'string([]byte{..})' of a literal that has just been laid. -/
theorem run_bytes_lit {P : Program} (w : World) (src dst e : TypeId) (hs : P.underlying src = some (.slice e)) (he : P.underlying e = some (.int .u8)) (hd : P.underlying dst = some .string) (ns : List Int) (n c : Nat) (hn : n = ns.length) (cs : Array Value) (hcs : cs = (ns.map (Value.int .u8)).toArray) (T : TypeId) :
    (convert src dst (.slice (some ⟨w.heap.size, 0, none⟩) n c)).run P (w.alloc (.cells cs T)) = .ok (.string ⟨(ns.map fun x => UInt8.ofNat x.toNat).toArray⟩) (w.alloc (.cells cs T)) := by
  subst hn; subst hcs
  rw [run_convert_bytes_string _ src dst e _ _ _ hs he hd]
  have hl := run_loadCells_list (P := P) (w.alloc (.cells (ns.map (Value.int .u8)).toArray T)) ⟨w.heap.size, 0, none⟩ (ns.map (Value.int .u8)) (fun j v hj => by
    have : (⟨w.heap.size, 0, none⟩ : Addr).add j = ⟨w.heap.size, j, none⟩ := by unfold Addr.add; split <;> simp [*]
    rw [this]
    rw [World.cell?_alloc_mark]
    simpa using hj)
  simp only [List.length_map] at hl
  rw [run_bytesToString _ _ _ c ns hl]
  have hf : ∀ (l : List Int) (s : ByteArray), l.foldl (fun r x => r.push (UInt8.ofNat x.toNat)) s = ⟨s.data ++ (l.map fun x => UInt8.ofNat x.toNat).toArray⟩ := by
    intro l
    induction l with
    | nil => intro s; simp
    | cons x l ih => intro s; simp only [List.foldl_cons]; rw [ih]; simp [ByteArray.push]
  rw [hf]
  have he0 : ByteArray.empty.data = #[] := rfl
  rw [he0]
  simp

theorem below_of_regrown {w w' : World} (h : ∃ p : Regrown, w' = Sort.grow (redrawn w p.d) p.os) : Below w.heap.size w w' := by
  obtain ⟨p, rfl⟩ := h
  exact below_regrown w p.d p.os
/-- Contracts inside a region that draws its order, the world known up to 'Below'. -/
theorem regL {P : Program} {f : FuncId} {args : Array Value} {w : World} {d : Nat} {os : Array Obj} {v : Value} (h : Calls P f args (Sort.grow (redrawn w d) os) fun e w' => e = .returned v ∧ Sort.grow (redrawn w d) os = w') :
    Calls P f args (Sort.grow (redrawn w d) os) fun e w'' => e = .returned v ∧ ∃ p : Regrown, w'' = Sort.grow (redrawn w p.d) p.os := h.mono fun _ _ ⟨he, hb⟩ => ⟨he, ⟨d, os⟩, hb.symm⟩
theorem regD {P : Program} {f : FuncId} {args : Array Value} {w : World} {d : Nat} {os : Array Obj} {v : Value} (h : Calls P f args (Sort.grow (redrawn w d) os) fun e w' => e = .returned v ∧ ∃ n, w' = (Sort.grow (redrawn w d) os).drewN n) :
    Calls P f args (Sort.grow (redrawn w d) os) fun e w'' => e = .returned v ∧ ∃ p : Regrown, w'' = Sort.grow (redrawn w p.d) p.os := h.mono fun _ _ ⟨he, n, hb⟩ => ⟨he, ⟨d + n, os⟩, hb⟩
end Go.Proofs.YtnjbbkocobegiaaGreatDoor

/- A text cut at a byte, in plain words. No program in sight. -/
namespace Go.Proofs.YtnjbbkocobegiaaGreatDoor
set_option linter.unusedVariables false
open Go.RowKit

/-- Where a byte stands first; the length where it does not stand. -/
def cutI (s : ByteArray) (c : UInt8) : Nat := s.data.toList.findIdx (· == c)
def cutF (s : ByteArray) (c : UInt8) : Bool := decide (cutI s c < s.size)
def cutA (s : ByteArray) (c : UInt8) : ByteArray := s.extract 0 (cutI s c)
def cutB (s : ByteArray) (c : UInt8) : ByteArray := s.extract (cutI s c + 1) s.size
theorem cutI_le (s : ByteArray) (c : UInt8) : cutI s c ≤ s.size := by
  have := List.findIdx_le_length (p := (· == c)) (xs := s.data.toList)
  simpa [cutI] using this
theorem cutA_size (s : ByteArray) (c : UInt8) : (cutA s c).size ≤ s.size := by unfold cutA; rw [ByteArray.size_extract]; omega
theorem cutB_size (s : ByteArray) (c : UInt8) : (cutB s c).size ≤ s.size := by unfold cutB; rw [ByteArray.size_extract]; omega
theorem idxB_no {s : ByteArray} {c : UInt8} (h : ¬ cutI s c < s.size) : Lib.indexByte s.data.toList c = -1 := by
  by_cases h1 : Lib.indexByte s.data.toList c = -1
  · exact h1
  · exfalso
    have hg := Lib.indexByte_ge s.data.toList c
    obtain ⟨o, ho⟩ := Int.eq_ofNat_of_zero_le (show 0 ≤ Lib.indexByte s.data.toList c by omega)
    obtain ⟨h2, _⟩ := Lib.indexByte_some ho
    obtain ⟨hlt, h3⟩ := List.getElem?_eq_some_iff.1 h2
    exact h (by
      have h4 : cutI s c < s.data.toList.length := List.findIdx_lt_length_of_exists ⟨c, by rw [← h3]; exact List.getElem_mem hlt, by simp⟩
      simpa using h4)
theorem idxB_yes {s : ByteArray} {c : UInt8} (h : cutI s c < s.size) : Lib.indexByte s.data.toList c = (cutI s c : Int) := by
  have hl : cutI s c < s.data.toList.length := by simpa using h
  have hg := Lib.indexByte_ge s.data.toList c
  have hc : s.data.toList[cutI s c] = c := by have := List.findIdx_getElem (p := (· == c)) (w := hl); exact eq_of_beq this
  have hne : Lib.indexByte s.data.toList c ≠ -1 := fun e => Lib.indexByte_none e (cutI s c) (by rw [List.getElem?_eq_getElem hl, hc])
  obtain ⟨o, ho⟩ := Int.eq_ofNat_of_zero_le (show 0 ≤ Lib.indexByte s.data.toList c by omega)
  obtain ⟨h2, h3⟩ := Lib.indexByte_some ho
  obtain ⟨hlt, h4⟩ := List.getElem?_eq_some_iff.1 h2
  rcases Nat.lt_trichotomy o (cutI s c) with h5 | h5 | h5
  · have := List.not_of_lt_findIdx (p := (· == c)) (xs := s.data.toList) h5
    simp [h4] at this
  · rw [ho, h5]
  · exact absurd (by rw [List.getElem?_eq_getElem hl, hc]) (h3 _ h5)
theorem findIdx_app {l r : List UInt8} {c : UInt8} (h : ∀ x ∈ l, x ≠ c) : (l ++ c :: r).findIdx (· == c) = l.length := by
  induction l with
  | nil => simp [List.findIdx_cons]
  | cons x l ih =>
    have hx : (x == c) = false := by simpa using h x (by simp)
    simp only [List.cons_append, List.findIdx_cons, hx, cond_false, List.length_cons]
    rw [ih (fun y hy => h y (by simp [hy]))]
theorem extract_list' (s : ByteArray) (a b : Nat) : (s.extract a b).data.toList = (s.data.toList.drop a).take (b - a) := by simp
theorem ba_ext {a b : ByteArray} (h : a.data.toList = b.data.toList) : a = b := by
  rcases a with ⟨⟨a⟩⟩; rcases b with ⟨⟨b⟩⟩; simp at h; rw [h]
/-- A text that is put together is cut where it was put together. -/
theorem cut_app {a b : ByteArray} {c : UInt8} (h : ∀ x ∈ a.data.toList, x ≠ c) : cutI (a ++ ⟨#[c]⟩ ++ b) c = a.size ∧ cutF (a ++ ⟨#[c]⟩ ++ b) c = true ∧ cutA (a ++ ⟨#[c]⟩ ++ b) c = a ∧ cutB (a ++ ⟨#[c]⟩ ++ b) c = b := by
  have e : (a ++ ⟨#[c]⟩ ++ b).data.toList = a.data.toList ++ (c :: b.data.toList) := by simp
  have hs : (a ++ ⟨#[c]⟩ ++ b).size = a.size + 1 + b.size := by rw [ByteArray.size_append, ByteArray.size_append]; rfl
  have hl : a.data.toList.length = a.size := by simp
  have hi : cutI (a ++ ⟨#[c]⟩ ++ b) c = a.size := by
    unfold cutI
    rw [e, findIdx_app h, hl]
  refine ⟨hi, by unfold cutF; rw [hi, hs]; simp; omega, ?_, ?_⟩
  · unfold cutA; rw [hi]; apply ba_ext; rw [extract_list', e]; simp [hl]
  · unfold cutB; rw [hi, hs]; apply ba_ext; rw [extract_list', e]
    rw [show a.data.toList ++ c :: b.data.toList = (a.data.toList ++ [c]) ++ b.data.toList by simp, List.drop_left' (by simp), List.take_of_length_le (by simp)]
theorem cut_none {a : ByteArray} {c : UInt8} (h : ∀ x ∈ a.data.toList, x ≠ c) : cutF a c = false ∧ cutA a c = a ∧ cutB a c = ⟨#[]⟩ := by
  have hi : cutI a c = a.size := by
    unfold cutI
    rw [List.findIdx_eq_length_of_false (fun x hx => by simpa using h x hx)]; simp
  refine ⟨by unfold cutF; rw [hi]; simp, ?_, ?_⟩
  · unfold cutA; rw [hi]; apply ba_ext; simp
  · unfold cutB; rw [hi]; apply ba_ext; simp
end Go.Proofs.YtnjbbkocobegiaaGreatDoor

/- Numerals read by the program and by the reference. -/
namespace Go.Proofs.YtnjbbkocobegiaaGreatDoor
set_option linter.unusedVariables false
open Go.RowKit Go.Sort

/-- The table of powers of ten lies where it was laid. -/
def PowLaid (w : World) : Prop := Lib.TabIs Tryz.prog w "internal/strconv.uint64pow10" .u64 Lib.pow10Tab
theorem pow_below {w w' : World} {B : Nat} (h : PowLaid w) (hb : Below B w w') (hB : w.heap.size ≤ B) : PowLaid w' :=
  Joins.tab_stays (g := 5) (by kernel_rfl) h hb hB
theorem below_grow {w w' : World} {k : Nat} {os : Array Obj} (h : w' = grow (w.drewN k) os) : Below w.heap.size w w' := by
  subst h
  exact below_regrown w (w.drawn + k) os
theorem itoa_c (n : Int) (w : World) (hn : okI n) (hp : PowLaid w) : Calls Tryz.prog 60 #[.int .i64 n] w fun e w' => e = .returned (.string ⟨(Lib.itoa n).toArray⟩) ∧ Below w.heap.size w w' :=
  (Any.strconv_Itoa Tryz.laysM171 n hn.1 hn.2 w hp).mono fun _ _ ⟨he, k, os, hw⟩ => ⟨he, below_grow hw⟩

/-- strings.Trim at the figures: empty just where all bytes are figures. -/
def TrimF (s : ByteArray) (w : World) (e : Ending) (w' : World) : Prop := ∃ t : ByteArray, e = .returned (.string t) ∧ (allB figC s = true → t = ⟨#[]⟩) ∧ (allB figC s = false → t.toList.isEmpty = false) ∧ Below w.heap.size w w'
theorem figC_eq (s : ByteArray) : allB (([48, 49, 50, 51, 52, 53, 54, 55, 56, 57] : List UInt8).contains ·) s = allB figC s := allB_congr (by decide +kernel) s
theorem trimF_c (s : ByteArray) (w : World) (hs : s.size ≤ 140737488355328) : Calls Tryz.prog 127 #[.string s, .string ⟨#[48, 49, 50, 51, 52, 53, 54, 55, 56, 57]⟩] w (TrimF s w) := by
  refine (trim_c s _ w hs (by decide) (by decide)).mono ?_
  rintro e w' ⟨he, hb⟩
  refine ⟨_, he, fun h => ?_, fun h => ?_, hb⟩
  · rw [← figC_eq] at h
    rw [(trimS_nil _ _).2 h]
  · rw [toList_mk]
    rw [← figC_eq] at h
    cases hd : Lib.trimS s.data.toList (ByteArray.mk #[48, 49, 50, 51, 52, 53, 54, 55, 56, 57]).data.toList with
    | nil => have := (trimS_nil _ _).1 hd; rw [show s.data.toList.all _ = allB _ s from rfl] at this; rw [this] at h; cases h
    | cons y t => rfl

def decA (s : ByteArray) (most : Int) : Int := bif decB s most then decV s else 0
/-- How the reference reads a number of at most so many digits. -/
def NumP (s : ByteArray) (most n : Int) (ok : Bool) : Prop :=
  (ok = true → Lib.itoa n = s.data.toList ∧ okI n ∧ ((Lib.trimPrefix s.data.toList [45]).length : Int) ≤ most) ∧ (ok = false → ∀ m, okI m → Lib.itoa m = s.data.toList → ¬ ((Lib.trimPrefix s.data.toList [45]).length : Int) ≤ most)
def NumR (s : ByteArray) (most : Int) (w : World) (e : Ending) (w' : World) : Prop := ∃ n ok, NumP s most n ok ∧ e = .returned (.tuple #[.int .i64 n, .bool ok]) ∧ Below w.heap.size w w'
theorem mk_size (l : List UInt8) : (⟨l.toArray⟩ : ByteArray).size = l.length := rfl
theorem trimPrefix_len (l p : List UInt8) : (Lib.trimPrefix l p).length ≤ l.length := by
  unfold Lib.trimPrefix; split
  · simp
  · exact Nat.le_refl _
theorem itoa_ok {s : ByteArray} {n m : Int} (h : Lib.atoiAll s.data.toList = .ok n) (hm : okI m) (e : Lib.itoa m = s.data.toList) : n = m := by
  rw [← e, atoi_itoa m hm] at h
  injection h with h; exact h.symm
end Go.Proofs.YtnjbbkocobegiaaGreatDoor

/- The generator's changed texts and frames. -/
namespace Go.Proofs.YtnjbbkocobegiaaGreatDoor
set_option linter.unusedVariables false
open Go.RowKit Go.Sort

theorem enc_size {n : Nat} (h : n < 256) : (Utf8.encode (n : Int)).size ≤ 4 := by
  have : ((List.range 256).all fun n => decide ((Utf8.encode (n : Int)).size ≤ 4)) = true := by decide +kernel
  rw [List.all_eq_true] at this
  simpa using this n (List.mem_range.2 h)
set_option maxHeartbeats 1000000 in
theorem Changed_c (sb : Nat) (k : Int) (t u : ByteArray) (w : World) (hs : Str w sb k) (hk : k ≤ 4000000000000000000) (ht : t.size ≤ 1000000000) (hu : u.size ≤ 1000000000) :
    Calls Tryz.prog 63 #[.pointer (some ⟨sb, 0, none⟩), .string t, .string u] w (Took sb k 3 (isStr (fun x => x.size ≤ t.size + u.size + 8)) w) := by
  have h0 := hs.nonneg
  have S0 := Lib.hid hs; clear hs
  cases he : t.toList.isEmpty with
  | true =>
    go_enter Tryz.func63, Tryz.ntmps63
    go_wp2
    go_ret
    exact ⟨_, k, rfl, ⟨u, by omega, rfl⟩, by omega, S0.out, gRefl _ _⟩
  | false =>
    have hts : 0 < t.size := by
      rw [ByteArray.toList_eq] at he
      cases hd : t.data.toList with
      | nil => rw [hd] at he; cases he
      | cons y l => show 0 < t.data.size; rw [← Array.length_toList, hd]; simp
    cases he2 : u.toList.isEmpty with
    | true =>
      go_enter Tryz.func63, Tryz.ntmps63
      go_wp2
      go_ret
      exact ⟨_, k, rfl, ⟨u, by omega, rfl⟩, by omega, S0.out, gRefl _ _⟩
    | false =>
      have hus : 0 < u.size := by
        rw [ByteArray.toList_eq] at he2
        cases hd : u.data.toList with
        | nil => rw [hd] at he2; cases he2
        | cons y l => show 0 < u.data.size; rw [← Array.length_toList, hd]; simp
      go_enter Tryz.func63, Tryz.ntmps63
      go_wp2_with fail
      refine (next_c sb k t.size _ S0.out (by omega) (by omega) (by omega)).mono ?_
      rintro e w1 ⟨v1, k1, rfl, ⟨x1, hx10, hx11, rfl⟩, hk1, hs1, hg1⟩
      have S1 := Lib.hid hs1; have G1 := Lib.hid hg1; clear hs1 hg1
      obtain ⟨i, rfl⟩ := Int.eq_ofNat_of_zero_le hx10
      go_wp2_with fail
      refine (next_c sb k1 u.size _ S1.out (by omega) (by omega) (by omega)).mono ?_
      rintro e w2 ⟨v2, k2, rfl, ⟨x2, hx20, hx21, rfl⟩, hk2, hs2, hg2⟩
      have S2 := Lib.hid hs2; have G2 := Lib.hid (gTrans G1.out hg2); clear hs2 hg2
      obtain ⟨j, rfl⟩ := Int.eq_ofNat_of_zero_le hx20
      have hi : i < t.size := by omega
      have hj : j < u.size := by omega
      clear hx10 hx11 hx20 hx21
      go_wp2_with fail
      refine (next_c sb k2 3 _ S2.out (by omega) (by omega) (by omega)).mono ?_
      rintro e w3 ⟨v3, k3, rfl, ⟨x3, hx30, hx31, rfl⟩, hk3, hs3, hg3⟩
      have S3 := Lib.hid hs3; have G3 := Lib.hid (gTrans G2.out hg3); clear hs3 hg3
      have q1 : IntKind.i64.wrap ((i : Int) + 1) = (i : Int) + 1 := IntWalk.i64_in _ (by omega)
      have hi1 : (i : Int) + 1 ≤ (t.size : Int) := by omega
      have hn1 : ((i : Int) + 1).toNat = i + 1 := by omega
      have hle : i + 1 ≤ t.size := by omega
      have hle0 : i ≤ t.size := by omega
      have hu8 : u[j].toNat < 256 := u[j].toNat_lt
      generalize u[j].toNat = n8 at hu8 ⊢
      have hz := enc_size hu8
      generalize hE : Utf8.encode (n8 : Int) = E at hz
      have HE := Lib.hid hE
      have hcv : ∀ W, (convert 21 9 (.int .i32 (n8 : Int))).run Tryz.prog W = .ok (.string E) W := fun W => by
        rw [run_convert_int_string W _ _ _ _ (by kernel_rfl) Tryz.underlying9, hE]
      clear hE
      rcases (show x3 = 0 ∨ x3 = 1 ∨ x3 = 2 by omega) with rfl | rfl | rfl
      · go_wp2
        go_quiet (fail)
        go_wp2
        go_ret
        refine ⟨_, k3, rfl, ⟨_, ?_, rfl⟩, by omega, S3.out.drewN _, grown_drewN G3.out _⟩
        show _ ≤ _
        simp; omega
      · go_wp2
        go_quiet (fail)
        go_wp2
        go_ret
        refine ⟨_, k3, rfl, ⟨_, ?_, rfl⟩, by omega, S3.out.drewN _, grown_drewN G3.out _⟩
        show _ ≤ _
        simp; omega
      · go_wp2
        go_quiet (fail)
        go_wp2
        go_ret
        refine ⟨_, k3, rfl, ⟨_, ?_, rfl⟩, by omega, S3.out.drewN _, grown_drewN G3.out _⟩
        show _ ≤ _
        simp; omega
end Go.Proofs.YtnjbbkocobegiaaGreatDoor

/- The number of a scene, and a setup, in plain words. -/
namespace Go.Proofs.YtnjbbkocobegiaaGreatDoor
set_option linter.unusedVariables false
open Go.RowKit

def digB (c : UInt8) : Bool := decide (48 ≤ c.toNat) && decide (c.toNat ≤ 57)
def capB (c : UInt8) : Bool := decide (65 ≤ c.toNat) && decide (c.toNat ≤ 90)
def numK (s : ByteArray) : Nat := (s.data.toList.takeWhile digB).length
def numB (s : ByteArray) : Bool :=
  (s.data.toList.drop (numK s)).all capB && decide (s.size - numK s ≤ 5) && !Lib.hasSuffix (s.data.toList.drop (numK s)) [65]
    && (if s.data.toList.take (numK s) = [48] then decide (numK s < s.size) else decide (1 ≤ numK s) && decide (numK s ≤ 3) && decide (s.data.toList.head? ≠ some 48))

theorem takeWhile_len {p : UInt8 → Bool} {l : List UInt8} {k : Nat} (h : ∀ x ∈ l.take k, p x = true) (hk : k ≤ l.length) (he : ∀ hlt : k < l.length, p l[k] = false) : (l.takeWhile p).length = k := by
  induction l generalizing k with
  | nil => simp at hk; simp [hk]
  | cons y l ih =>
    cases k with
    | zero => have := he (by simp); simp at this; simp [this]
    | succ k =>
      have h0 : p y = true := h y (by simp)
      have := ih (k := k) (fun x hx => h x (by simp [hx])) (by simpa using hk) (fun hlt => he (Nat.succ_lt_succ hlt))
      simp [h0, this]
theorem numK_eq {s : ByteArray} {k : Nat} (h : ∀ x ∈ s.data.toList.take k, digB x = true) (hk : k ≤ s.size) (he : ∀ hlt : k < s.size, digB s[k] = false) : numK s = k :=
  takeWhile_len h (by simpa using hk) (fun hlt => he (by simpa using hlt))
theorem extract_list (s : ByteArray) (a b : Nat) : (s.extract a b).data.toList = (s.data.toList.drop a).take (b - a) := by
  simp
theorem extract_end (s : ByteArray) (k : Nat) : (s.extract k s.size).data.toList = s.data.toList.drop k := by
  rw [extract_list, List.take_of_length_le]
  simp

theorem numB_size {s : ByteArray} (h : numB s = true) : s.size ≤ 8 := by
  simp only [numB, Bool.and_eq_true, decide_eq_true_eq] at h
  obtain ⟨⟨⟨_, h1⟩, _⟩, h2⟩ := h
  split at h2
  · rename_i h3
    have := congrArg List.length h3
    simp at this; omega
  · simp only [Bool.and_eq_true, decide_eq_true_eq] at h2; omega

def setC (c : UInt8) : Bool := capB c && decide (c.toNat ≠ 73) && decide (c.toNat ≠ 79)
def setupB (s : ByteArray) : Bool := allB setC s && decide (s.size ≤ 2)
theorem setupB_size {s : ByteArray} (h : setupB s = true) : s.size ≤ 2 := by
  simp only [setupB, Bool.and_eq_true, decide_eq_true_eq] at h; exact h.2
def slateE (scene setup : ByteArray) (n : Int) : Int := if numB scene = false then 5 else if setupB setup = false then 5 else if n < 1 ∨ 99 < n then 1 else 0
def slateS (scene setup : ByteArray) (n : Nat) : ByteArray := (if setup.toList.isEmpty = true then scene else scene ++ (⟨#[47]⟩ ++ setup)) ++ ⟨#[45]⟩ ++ ⟨(Lib.decDigits n).toArray⟩
def slateA (scene setup : ByteArray) (n : Int) : ByteArray := if slateE scene setup n = 0 then slateS scene setup n.toNat else ⟨#[]⟩
end Go.Proofs.YtnjbbkocobegiaaGreatDoor

