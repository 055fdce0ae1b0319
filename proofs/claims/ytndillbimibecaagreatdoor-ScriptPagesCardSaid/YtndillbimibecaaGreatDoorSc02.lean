/- Texts packed: OwnLm, PushS, PushZ, RollW, RollX, ScriptT, DelW, SegIn, SeqC, KeepM, Shelf, AtoiW, BldW, BldK, LawA, RefA, Shelf2, Str, CodeW, CutS, CutW, DecW, GenC, GenE, HexW, FilesW, FilesX, FilesY, EqI, LaidW, NumS, PlainS, SlateS, TkS, NextS, TlS, WdS, WpS. -/
import Derived.Test.YtndillbimibecaaGreatDoorSc01
import Derived.Lib.AppendZeros
import Derived.Maps.AppendAt
import Derived.Test.YtndillbimibecaaGreatDoorRows
import Derived.BigQuiet
import Derived.Deep.RegionWith
import Derived.Deep.QuietTactic
import Derived.Deep.RegionLaw
import Derived.Laws.IdiomCopy
import Derived.Lib.SliceRun
import Derived.Deep.DeepCutAuto
import Derived.RangeFuncBox
import Derived.RangeFuncLeaves
import Derived.RangeFuncFrom
import Derived.Shelf.Strings.Builder1
import Derived.Shelf.Strings.Builder2
import Derived.Shelf.Strings.OnBuilder
import Derived.Shelf.Strings.Trim
import Derived.Shelf.Small.Utf8
import Derived.Shelf.Small.Strs
import Derived.Shelf.Small.Wraps
import Derived.Shelf.Strings.BuilderF
import Derived.Shelf.Strings.BuilderK
import Derived.Shelf.Strings.Builder2Cap
import Derived.Shelf.Strconv.Itoa0
import Derived.Shelf.Strconv.Itoa1
import Derived.Shelf.LaysM
import Derived.Shelf.Strconv.Itoa2
import Derived.Shelf.Strconv.Itoa3
import Derived.Shelf.Strings.Search1
import Derived.Shelf.Strings.Search2
import Derived.Shelf.Strings.Search3
import Derived.Shelf.Strings.Cut
import Derived.Shelf.Strings.Count
import Derived.Shelf.Strings.Shaped
import Derived.Shelf.Strings.LastIndex
import Derived.Shelf.Strings.LastIndexAll
import Derived.Shelf.Strings.Prefix
import Derived.Shelf.Strings.Split
import Derived.Shelf.Strings.Fields
import Derived.Shelf.Strings.SplitShaped
import Derived.Shelf.Unicode.Latin
import Derived.Shelf.Unicode.Decode
import Derived.Shelf.Strings.Runes
import Derived.Shelf.Strings.RuneCount
import Derived.Shelf.Strings.IndexAny
import Derived.Shelf.Strings.AsciiSet
import Derived.Shelf.Strings.IndexAnyAll
import Derived.Shelf.Strings.Explode
import Derived.Shelf.Bits.Mul64
import Derived.Shelf.Strings.Repeat
import Derived.Shelf.Unicode.DecodeSlow
import Derived.Shelf.Unicode.DecodeAny
import Derived.Shelf.Unicode.Is16White
import Derived.Shelf.Unicode.IsSpaceAny
import Derived.Shelf.Unicode.DecodeLast
import Derived.Shelf.Strings.FieldsFuncAny
import Derived.Shelf.Unicode.Is16Any
import Derived.Shelf.Unicode.Is32Any
import Derived.Shelf.Unicode.ExclAny
import Derived.Shelf.Strings.FieldsFuncGrows
import Derived.Shelf.Strings.BuilderCap
import Derived.Shelf.Slices.Turned
import Derived.Shelf.Slices.Equal
import Derived.Shelf.Slices.Empties2
import Derived.Ground.SlgnProg
import Derived.Shelf.SlicesE.Equal
import Derived.Test.YtndillbimibecaaGreatDoorProg
import Derived.Lib.SmallJoins
import Derived.Shelf.Strconv.AtoiAll
import Derived.Shelf.Strings.SlTrimAscii
import Derived.Laws.IdiomStrings
import Derived.Lib.QuietBelow
import Derived.Lib.IndexLaws
import Derived.Laws.Bits64
import Derived.Laws.Bits64b
import Derived.Lib.Repeat
import Derived.Outline
import Derived.Deep.RegionHeld3
import Derived.Deep.AppendLies
import Derived.Lib.ItoaLen
import Derived.Lib.Strings
import Derived.Lib.ItoaNum
import Derived.Lib.FieldsP
import Derived.Lib.IndexMore
import Derived.Lib.Slices
/- Append of a whole list, where only the appended elements' cells are known to be single. No program in sight. -/
namespace Go.Proofs.YtndillbimibecaaGreatDoor
set_option linter.unusedVariables false
open Go.RowKit

section
variable {α : Type} {n : Nat} {enc : α → List Value} {hn : ∀ x, (enc x).length = n}
theorem Lay.cells1m {w : World} {F : Nat → Prop} {l : List α} {cs : List Value} (h : Lay (Rep.flat n enc hn) w F l cs) (h0 : 0 < n) (h1 : ∀ x ∈ l, ∀ u ∈ enc x, u.oneCell' = true) : ∀ u ∈ cs, u.oneCell' = true := by
  intro u hu
  obtain ⟨j, hj⟩ := List.mem_iff_getElem?.1 hu
  have hlt := (List.getElem?_eq_some_iff.1 hj).1
  have hlen : cs.length = l.length * n := h.1
  have hk : j / n < l.length := by
    rw [Nat.div_lt_iff_lt_mul h0]
    omega
  have he : (cs.drop (j / n * n)).take n = enc l[j / n] := h.2 _ _ (List.getElem?_eq_getElem hk)
  refine h1 l[j / n] (List.getElem_mem hk) u ?_
  rw [← he]
  refine List.mem_iff_getElem?.2 ⟨j % n, ?_⟩
  rw [List.getElem?_take_of_lt (Nat.mod_lt _ h0), List.getElem?_drop, Nat.mul_comm, Nat.div_add_mod]
  exact hj
theorem oper_appLm {P : Program} {o : Oper} {a : Act} {K : Act → World → Prop} {Q : Exit → Act → World → Prop} (s x : Operand) (t : TypeId)
    (ho : o.op = .call { callee := .builtin .append, args := #[s, x], argTypes := #[t, t] })
    (base lo : Nat) (e : TypeId) (i : TypeInfo) (z : Value) (bytes : Nat) (ht : P.underlying t = some (.slice e)) (hi : P.info? e = some i) (hz : i.zero = some z)
    (hsize : i.size = n) (hby : i.bytes = bytes) (hzs : z.cells.size = n) (hsz : 0 < n)
    (W : World) (v : Value) (l : List α) (hs : a.eval s = v) (hown : Own (Rep.flat n enc hn) W base lo e l v) {F : Nat → Prop} (ys : List α) (h1 : ∀ x ∈ ys, ∀ u ∈ enc x, u.oneCell' = true) (ad : Option Addr) (m c : Nat) (hx : a.eval x = .slice ad m c) (hy : Sli (Rep.flat n enc hn) W F ys (.slice ad m c)) (hm : ys.length = m) (h0 : 0 < m)
    (h63 : l.length + m ≤ maxLen) (hbytes : (l.length + m) * bytes ≤ 140737488355328) (hbase : base ≤ W.heap.size)
    (h : ∀ g cap w', Own (Rep.flat n enc hn) w' base lo e (l ++ ys) (.slice (some ⟨g, 0, none⟩) (l.length + m) cap) → W.grownBy w' v.ownBlock → (v.ownBlock = some g ∨ g = W.heap.size) → g < w'.heap.size → K (a.put o.dst (.slice (some ⟨g, 0, none⟩) (l.length + m) cap)) w') :
    Oper.wp P o a W K Q := by
  obtain ⟨xs, hor, hl⟩ := hown
  subst hm
  obtain ⟨A, c', ea, _, _, h3⟩ := hy
  injection ea with e1 e2 e3
  subst e1; subst e3
  obtain ⟨b, off, cs, rfl, _, hly, hc⟩ := h3 h0
  have hcl : cs.length = ys.length * n := hly.1
  refine wp_append_lies W s x t ho base e i z n bytes ht hi hz hsize hby hzs hsz v l.length xs hs hor ⟨b, off, none⟩ ys.length c cs hx hcl (fun j u hj => by rw [addrAdd]; exact hc j u hj) (hly.cells1m hsz h1) h0 h63 hbytes hbase W.heap.size rfl ?_
  intro g cap w' h2 h4 h5 h6
  exact h g cap w' ⟨_, by rw [List.length_append]; exact h2, Lay.app hl.any hly.any⟩ h4 h5 h6
theorem wpList_appLm {P : Program} {ops : Array Oper} {rest : List Oper} {o : Oper} {a : Act} {Q : Exit → Act → World → Prop} (hgd : o.guard = none) (s x : Operand) (t : TypeId)
    (ho : o.op = .call { callee := .builtin .append, args := #[s, x], argTypes := #[t, t] })
    (base lo : Nat) (e : TypeId) (i : TypeInfo) (z : Value) (bytes : Nat) (ht : P.underlying t = some (.slice e)) (hi : P.info? e = some i) (hz : i.zero = some z)
    (hsize : i.size = n) (hby : i.bytes = bytes) (hzs : z.cells.size = n) (hsz : 0 < n)
    (W : World) (v : Value) (l : List α) (hs : a.eval s = v) (hown : Own (Rep.flat n enc hn) W base lo e l v) {F : Nat → Prop} (ys : List α) (h1 : ∀ x ∈ ys, ∀ u ∈ enc x, u.oneCell' = true) (ad : Option Addr) (m c : Nat) (hx : a.eval x = .slice ad m c) (hy : Sli (Rep.flat n enc hn) W F ys (.slice ad m c)) (hm : ys.length = m) (h0 : 0 < m)
    (h63 : l.length + m ≤ maxLen) (hbytes : (l.length + m) * bytes ≤ 140737488355328) (hbase : base ≤ W.heap.size)
    (h : ∀ g cap w', Own (Rep.flat n enc hn) w' base lo e (l ++ ys) (.slice (some ⟨g, 0, none⟩) (l.length + m) cap) → W.grownBy w' v.ownBlock → (v.ownBlock = some g ∨ g = W.heap.size) → g < w'.heap.size → wpList P ops Q rest (a.put o.dst (.slice (some ⟨g, 0, none⟩) (l.length + m) cap)) w') :
    wpList P ops Q (o :: rest) a W :=
  wpList_plain hgd fun K hK => oper_appLm s x t ho base lo e i z bytes ht hi hz hsize hby hzs hsz W v l hs hown ys h1 ad m c hx hy hm h0 h63 hbytes hbase fun g cap w' h2 h3 h4 h5 => hK _ _ (h g cap w' h2 h3 h4 h5)
end
end Go.Proofs.YtndillbimibecaaGreatDoor

/- Append of several texts at once onto a list of one's own. No program in sight. -/
namespace Go.Proofs.YtndillbimibecaaGreatDoor
set_option linter.unusedVariables false
open Go.RowKit

end Go.Proofs.YtndillbimibecaaGreatDoor

/- 'append(out, make([]T, m)...)' onto a list of one's own: m zeros behind it. No program in sight. -/
namespace Go.Proofs.YtndillbimibecaaGreatDoor
set_option linter.unusedVariables false
open Go.RowKit

/-- 'append(out, ys...)' of an empty list. -/
theorem run_app0 {P : Program} {α : Type} {R : Rep α} (w : World) (t ty e : TypeId) (i : TypeInfo) (base lo : Nat) (ht : P.underlying t = some (.slice e)) (hi : P.info? e = some i) (v : Value) (l : List α) (hown : Own R w base lo e l v) (ad : Option Addr) (c : Nat) :
    (Builtin.append_ #[t, t] ty #[v, .slice ad 0 c]).run P w = .ok v w := by
  obtain ⟨xs, hor, _⟩ := hown
  rcases hor.2 with ⟨rfl, h0⟩ | ⟨g, cap, cur, rfl, hbg, hg, hnc, hcm, hcs, htake⟩
  · cases ad <;> simp [Builtin.append_, run_underlying ht, sizeOf, typeInfo, hi, Builtin.lenOf, Builtin.firstCells, loadCells, loadCellsFrom]
  · cases ad <;> simp [Builtin.append_, run_underlying ht, sizeOf, typeInfo, hi, Builtin.lenOf, Builtin.firstCells, loadCells, loadCellsFrom, hnc, storeCells]
theorem oper_app0 {P : Program} {α : Type} {R : Rep α} {o : Oper} {a : Act} {K : Act → World → Prop} {Q : Exit → Act → World → Prop} (s x : Operand) (t : TypeId)
    (ho : o.op = .call { callee := .builtin .append, args := #[s, x], argTypes := #[t, t] })
    (base lo : Nat) (e : TypeId) (i : TypeInfo) (ht : P.underlying t = some (.slice e)) (hi : P.info? e = some i) (W : World) (v : Value) (l : List α) (hs : a.eval s = v) (hown : Own R W base lo e l v) (ad : Option Addr) (c : Nat) (hx : a.eval x = .slice ad 0 c)
    (h : K (a.put o.dst v) W) : Oper.wp P o a W K Q :=
  Lib.wp_append_run W s x t t ho v (.slice ad 0 c) hs hx _ W (run_app0 (P := P) W t o.type e i base lo ht hi v l hown ad c) h
end Go.Proofs.YtndillbimibecaaGreatDoor

/- The program's functions on rolls and rates. -/
namespace Go.Proofs.YtndillbimibecaaGreatDoor
set_option linter.unusedVariables false
open Go.RowKit

end Go.Proofs.YtndillbimibecaaGreatDoor

/- The program's functions on rolls, looked up and checked. -/
namespace Go.Proofs.YtndillbimibecaaGreatDoor
set_option linter.unusedVariables false
open Go.RowKit

/-- A variable's own cell keeps what it holds. -/
theorem cellC {w W : World} {b : Nat} {v : Value} (h : w.cell? ⟨b, 0, none⟩ = some v) (hb : Below w.heap.size w W) (hlt : b < w.heap.size) : W.cell? ⟨b, 0, none⟩ = some v := (hb.cell (p := ⟨b, 0, none⟩) hlt).trans h

end Go.Proofs.YtndillbimibecaaGreatDoor

/- Scripts as they lie in memory. No program in sight. -/
namespace Go.Proofs.YtndillbimibecaaGreatDoor
set_option linter.unusedVariables false
open Go.RowKit

structure Para where
  kind : Int
  text : ByteArray
structure Scene where
  no : ByteArray
  place : Int
  set : ByteArray
  time : Int
  paras : List Para
structure Script where
  title : ByteArray
  scenes : List Scene

def Para.cells (p : Para) : List Value := [.int .i64 p.kind, .string p.text]
def paraR : Rep Para := Rep.flat 2 Para.cells (fun _ => rfl)
def Scene.cells (s : Scene) (v : Value) : List Value := [.string s.no, .int .i64 s.place, .string s.set, .int .i64 s.time, v]
theorem para_at {w : World} {F : Nat → Prop} {l : List Para} {A : Option Addr} {n c : Nat} (h : Sli paraR w F l (.slice A n c)) (k : Nat) (hk : k < l.length) :
    ∃ b off, A = some ⟨b, off, none⟩ ∧ F b ∧ w.cell? ⟨b, off + k * 2, none⟩ = some (.int .i64 l[k].kind) ∧ w.cell? ⟨b, off + k * 2 + 1, none⟩ = some (.string l[k].text) := by
  obtain ⟨b, off, a, ea, hb, e, hc⟩ := h.at_ k hk
  have e' : a = Para.cells l[k] := e
  subst e'
  exact ⟨b, off, ea, hb, hc 0 _ rfl, hc 1 _ rfl⟩
theorem str_at {w : World} {F : Nat → Prop} {l : List ByteArray} {A : Option Addr} {n c : Nat} (h : Sli strR w F l (.slice A n c)) (k : Nat) (hk : k < l.length) :
    ∃ b off, A = some ⟨b, off, none⟩ ∧ F b ∧ w.cell? ⟨b, off + k, none⟩ = some (.string l[k]) := by
  obtain ⟨b, off, a, ea, hb, e, hc⟩ := h.at_ k hk
  have e' : a = [.string l[k]] := e
  subst e'
  have := hc 0 _ rfl
  exact ⟨b, off, ea, hb, by simpa [strR, Rep.flat] using this⟩

/-- What a made script stays within. -/
def paraBd (p : Para) : Prop := 1 ≤ p.kind ∧ p.kind ≤ 5 ∧ 0 < p.text.size ∧ p.text.size ≤ 10000
def sceneBd (s : Scene) : Prop := s.no.size ≤ 1000 ∧ 0 ≤ s.place ∧ s.place ≤ 3 ∧ s.set.size ≤ 1000 ∧ 0 ≤ s.time ∧ s.time ≤ 5 ∧ s.paras.length ≤ 60 ∧ ∀ p ∈ s.paras, paraBd p
def scriptBd (x : Script) : Prop := x.title.size ≤ 1000 ∧ x.scenes.length ≤ 90 ∧ ∀ s ∈ x.scenes, sceneBd s
end Go.Proofs.YtndillbimibecaaGreatDoor

/- slices.Delete of one paragraph, in a row of one's own. -/
namespace Go.Proofs.YtndillbimibecaaGreatDoor
set_option linter.unusedVariables false
open Go.RowKit

theorem grown_setCell (w : World) (b o : Nat) (v : Value) : w.grownBy (w.setCell ⟨b, o, none⟩ v) (some b) :=
  ⟨rfl, rfl, rfl, by simp [World.setCell], fun i _ hne => Below.heap_setCell w ⟨b, o, none⟩ v i (fun e => hne (by rw [e]))⟩
theorem grown_setCells (b : Nat) : ∀ (vs : List Value) (o : Nat) (w : World), w.grownBy (w.setCells b o vs) (some b)
  | [], o, w => ⟨rfl, rfl, rfl, Nat.le_refl _, fun _ _ _ => rfl⟩
  | v :: vs, o, w => gbTrans (grown_setCell w b o v) (grown_setCells b vs (o + 1) _)
/-- A row whose cells are known reads as a list. -/
theorem Sli.mkF {α : Type} {n : Nat} {enc : α → List Value} {hn : ∀ x, (enc x).length = n} {w : World} {F : Nat → Prop} {l : List α} {g c : Nat} (hF : F g) (hc : l.length ≤ c) (hc2 : c ≤ 9223372036854775807)
    (h : ∀ (k : Nat) x, l[k]? = some x → ∀ j u, (enc x)[j]? = some u → w.cell? ⟨g, k * n + j, none⟩ = some u) : Sli (Rep.flat n enc hn) w F l (.slice (some ⟨g, 0, none⟩) l.length c) := by
  have hlay : ∀ l : List α, (l.flatMap enc).length = l.length * n := fun l => by
    induction l with
    | nil => simp
    | cons a r ih => rw [List.flatMap_cons, List.length_append, hn, ih, List.length_cons, Nat.add_mul]; omega
  have hget : ∀ (l : List α) (k : Nat) x, l[k]? = some x → ((l.flatMap enc).drop (k * n)).take n = enc x := fun l => by
    induction l with
    | nil => intro k x hx; simp at hx
    | cons a r ih =>
      intro k x hx
      cases k with
      | zero =>
        simp at hx; subst hx
        rw [List.flatMap_cons, Nat.zero_mul, List.drop_zero, List.take_left' (hn a)]
      | succ k =>
        rw [List.flatMap_cons, show (k + 1) * n = n + k * n by rw [Nat.add_mul]; omega, ← List.drop_drop, List.drop_left' (hn a)]
        exact ih k x (by simpa using hx)
  refine ⟨_, c, rfl, hc, hc2, fun _ => ⟨g, 0, l.flatMap enc, rfl, hF, ⟨hlay l, fun k x hx => hget l k x hx⟩, fun j u hj => ?_⟩⟩
  rw [Nat.zero_add]
  have hjl := (List.getElem?_eq_some_iff.1 hj).1
  rw [hlay] at hjl
  by_cases h0 : n = 0
  · subst h0; omega
  · have hk : j / n < l.length := (Nat.div_lt_iff_lt_mul (by omega)).2 hjl
    have h2 := hget l (j / n) _ (List.getElem?_eq_getElem hk)
    have h3 : (enc l[j / n])[j % n]? = some u := by
      rw [← h2, List.getElem?_take, if_pos (Nat.mod_lt _ (by omega)), List.getElem?_drop, Nat.mul_comm, Nat.div_add_mod]
      exact hj
    have h4 := h (j / n) _ (List.getElem?_eq_getElem hk) _ u h3
    rw [Nat.mul_comm, Nat.div_add_mod] at h4
    exact h4
/-- 'clear' of one paragraph. -/
theorem run_clear_para (w : World) (ty : TypeId) (g o c : Nat) (h0 : (w.cell? ⟨g, o, none⟩).isSome = true) (h1 : (w.cell? ⟨g, o + 1, none⟩).isSome = true) (f0 : w.frozen? ⟨g, o, none⟩ = false) (f1 : w.frozen? ⟨g, o + 1, none⟩ = false) :
    (Builtin.clear_ #[47] ty #[.slice (some ⟨g, o, none⟩) 1 c]).run Tryz.prog w = .ok (.tuple #[]) (w.setCells g o [.int .i64 0, .string ⟨#[]⟩]) := by
  have hv : ∀ w, (zeroValue 81).run Tryz.prog w = .ok (.agg #[.int .i64 0, .string ⟨#[]⟩]) w := fun w => by kernel_rfl
  have hzc : (Builtin.zeroCells (Value.agg #[.int .i64 0, .string ⟨#[]⟩]).cells 1).toList = [.int .i64 0, .string ⟨#[]⟩] := by kernel_rfl
  have hst := run_storeCells_cells (P := Tryz.prog) g o [.int .i64 0, .string ⟨#[]⟩] 0 w (fun j hj => by
    match j, hj with
    | 0, _ => simpa using h0
    | 1, _ => simpa using h1) (fun j hj => by
    match j, hj with
    | 0, _ => simpa using f0
    | 1, _ => simpa using f1) (by intro v hv; simp at hv; rcases hv with rfl | rfl <;> rfl)
  simp only [Nat.add_zero] at hst
  simp [Builtin.clear_, run_underlying Tryz.underlying47, hv, hzc, hst]
def DelP (g i d cap : Nat) (l : List Para) (w : World) (e : Ending) (w' : World) : Prop := e = .returned (.slice (some ⟨g, 0, none⟩) (i + d) cap) ∧ Sli paraR w' (fun q => q = g) l (.slice (some ⟨g, 0, none⟩) (i + d) cap) ∧ w.grownBy w' (some g)
set_option maxRecDepth 100000 in
set_option maxHeartbeats 4000000 in
theorem delPara_c (g i d cap base lo : Nat) (l1 l2 : List Para) (x : Para) (w : World) (h : Own paraR w base lo 81 (l1 ++ x :: l2) (.slice (some ⟨g, 0, none⟩) (i + d + 1) cap)) (h1 : l1.length = i) (h2 : l2.length = d) (hl : i + d ≤ 1000000) :
    Calls Tryz.prog 38 #[.slice (some ⟨g, 0, none⟩) (i + d + 1) cap, .int .i64 i, .int .i64 (i + 1)] w (DelP g i d cap (l1 ++ l2) w) := by
  obtain ⟨i0, hi0, hz0, hz1, hz2⟩ := info_parts (show (Tryz.prog.info? 81).map (fun i => (i.zero, i.size, i.bytes)) = some (some (.agg #[.int .i64 0, .string ⟨#[]⟩]), 2, 24) by kernel_rfl)
  have hcap : i + d + 1 ≤ cap ∧ cap ≤ 9223372036854775807 := by
    rcases h.form with ⟨e, _⟩ | ⟨g', c', e, _, _, h3, h4⟩
    · cases e
    · injection e with _ e2 e3
      subst e3
      rw [← e2] at h3
      exact ⟨h3, h4⟩
  have hcell : ∀ k y, (l1 ++ x :: l2)[k]? = some y → ∀ j, j < 2 → w.cell? ⟨g, k * 2 + j, none⟩ = y.cells[j]? ∧ w.frozen? ⟨g, k * 2 + j, none⟩ = false := fun k y hy j hj => by
    obtain ⟨hk, rfl⟩ := List.getElem?_eq_some_iff.1 hy
    exact Own.cellAt (enc := Para.cells) h k hk j hj
  have HC := Lib.hid hcell
  clear hcell
  obtain ⟨news, hnews⟩ : ∃ news, news = l2.flatMap Para.cells := ⟨_, rfl⟩
  have hfl : ∀ l : List Para, (l.flatMap Para.cells).length = l.length * 2 := fun l => by
    induction l with
    | nil => simp
    | cons a r ih => rw [List.flatMap_cons, List.length_append, ih, List.length_cons, Nat.add_mul, show (Para.cells a).length = 2 from rfl]; omega
  have hfg : ∀ (l : List Para) (k : Nat) y, l[k]? = some y → ∀ j, j < 2 → (l.flatMap Para.cells)[k * 2 + j]? = y.cells[j]? := fun l => by
    induction l with
    | nil => intro k y hy; simp at hy
    | cons a r ih =>
      intro k y hy j hj
      cases k with
      | zero =>
        simp at hy; subst hy
        rw [List.flatMap_cons, Nat.zero_mul, Nat.zero_add, List.getElem?_append_left (by show j < 2; exact hj)]
      | succ k =>
        rw [List.flatMap_cons, List.getElem?_append_right (by show 2 ≤ _; omega)]
        have := ih k y (by simpa using hy) j hj
        rw [← this]
        congr 1
        show (k + 1) * 2 + j - 2 = _
        omega
  have hlen : news.length = d * 2 := by rw [hnews, hfl, h2]
  have hsrc : Hid (∀ t u, news[t]? = some u → w.drew.cell? ⟨g, (i + 1) * 2 + t, none⟩ = some u) := by
    intro t u hu
    have ht := (List.getElem?_eq_some_iff.1 hu).1
    rw [hlen] at ht
    have hk : t / 2 < l2.length := by omega
    have e := hfg l2 (t / 2) _ (List.getElem?_eq_getElem hk) (t % 2) (Nat.mod_lt _ (by decide))
    rw [show t / 2 * 2 + t % 2 = t by omega, ← hnews, hu] at e
    have hx : (l1 ++ x :: l2)[i + 1 + t / 2]? = some l2[t / 2] := by
      rw [List.getElem?_append_right (by omega), show i + 1 + t / 2 - l1.length = t / 2 + 1 by omega, List.getElem?_cons_succ, List.getElem?_eq_getElem hk]
    have hc := (HC.out _ _ hx (t % 2) (Nat.mod_lt _ (by decide))).1
    rw [show (i + 1 + t / 2) * 2 + t % 2 = (i + 1) * 2 + t by omega] at hc
    show w.cell? _ = _
    rw [hc, ← e]
  have s1 : Hid (news.length = d * 2) := hlen
  have s2 : Hid (∀ u ∈ news, u.oneCell' = true) := by
    intro u hu
    rw [hnews, List.mem_flatMap] at hu
    obtain ⟨p, _, hp⟩ := hu
    simp [Para.cells] at hp
    rcases hp with rfl | rfl <;> rfl
  have s3 : Hid (∀ t, t < d * 2 + 2 → (w.cell? ⟨g, i * 2 + t, none⟩).isSome = true ∧ w.frozen? ⟨g, i * 2 + t, none⟩ = false) := by
    intro t ht
    have hk : i + t / 2 < (l1 ++ x :: l2).length := by simp; omega
    have hc := HC.out _ _ (List.getElem?_eq_getElem hk) (t % 2) (Nat.mod_lt _ (by decide))
    rw [show (i + t / 2) * 2 + t % 2 = i * 2 + t by omega] at hc
    refine ⟨?_, hc.2⟩
    rw [hc.1, List.getElem?_eq_getElem (by show t % 2 < 2; omega)]
    rfl
  have HFG := Lib.hid (hfg l2)
  have HNW := Lib.hid hnews
  have hg : Hid (∀ (W1 : World), W1 = w.drew.setCells g (i * 2) news → DelP g i d cap (l1 ++ l2) w (.returned (.slice (some ⟨g, 0, none⟩) (i + d) cap)) (W1.setCells g ((i + d) * 2) [.int .i64 0, .string ⟨#[]⟩])) := by
    rintro W1 rfl
    refine ⟨rfl, ?_, gbTrans (gbTrans (⟨rfl, rfl, rfl, Nat.le_refl _, fun _ _ _ => rfl⟩ : w.grownBy w.drew (some g)) (grown_setCells g news (i * 2) w.drew)) (grown_setCells g _ _ _)⟩
    have hll : (l1 ++ l2).length = i + d := by rw [List.length_append, h1, h2]
    have key := Sli.mkF (n := 2) (enc := Para.cells) (hn := fun _ => rfl) (w := (w.drew.setCells g (i * 2) news).setCells g ((i + d) * 2) [.int .i64 0, .string ⟨#[]⟩]) (F := fun q => q = g) (l := l1 ++ l2) (g := g) (c := cap) rfl (by omega) hcap.2 (fun k y hy j u hj => by
      have hk := (List.getElem?_eq_some_iff.1 hy).1
      have hj2 : j < 2 := by have := (List.getElem?_eq_some_iff.1 hj).1; exact this
      rw [World.cell?_setCells_out g _ _ _ _ (fun _ _ => .inl (by dsimp only; omega))]
      by_cases hki : k < i
      · rw [World.cell?_setCells_out g _ _ _ _ (fun _ _ => .inl (by dsimp only; omega))]
        have hy2 : (l1 ++ x :: l2)[k]? = some y := by rw [← hy, List.getElem?_append_left (by omega), List.getElem?_append_left (by omega)]
        exact ((HC.out k y hy2 j hj2).1).trans hj
      · have hy2 : l2[k - i]? = some y := by rw [← hy, List.getElem?_append_right (by omega), h1]
        have e := HFG.out (k - i) y hy2 j hj2
        rw [← HNW.out, hj] at e
        have hlt := (List.getElem?_eq_some_iff.1 e).1
        have hc := World.cell?_setCells_in g news (i * 2) w.drew (fun t ht => (s3.out t (by rw [s1.out] at ht; omega)).1) ((k - i) * 2 + j) hlt
        rw [show i * 2 + ((k - i) * 2 + j) = k * 2 + j by omega] at hc
        rw [hc, ← e, List.getElem?_eq_getElem hlt])
    rw [hll] at key
    exact key
  have hcl : Hid (∀ (W1 : World), W1 = w.drew.setCells g (i * 2) news → ∀ ty c, (Builtin.clear_ #[47] ty #[.slice (some ⟨g, (i + d) * 2, none⟩) 1 c]).run Tryz.prog W1 = .ok (.tuple #[]) (W1.setCells g ((i + d) * 2) [.int .i64 0, .string ⟨#[]⟩])) := by
    rintro W1 rfl ty c
    have hin : ∀ t, t < 2 → ((w.drew.setCells g (i * 2) news).cell? ⟨g, (i + d) * 2 + t, none⟩).isSome = true ∧ (w.drew.setCells g (i * 2) news).frozen? ⟨g, (i + d) * 2 + t, none⟩ = false := fun t ht => by
      rw [World.cell?_setCells_out g _ _ _ _ (fun _ _ => .inr (by rw [s1.out]; dsimp only; omega)), World.frozen?_setCells]
      have := s3.out (d * 2 + t) (by omega)
      rw [show i * 2 + (d * 2 + t) = (i + d) * 2 + t by omega] at this
      exact this
    exact run_clear_para _ ty g _ c (hin 0 (by decide)).1 (hin 1 (by decide)).1 (hin 0 (by decide)).2 (hin 1 (by decide)).2
  have hnil : Hid (d = 0 → news = []) := fun h => List.eq_nil_of_length_eq_zero (by rw [hlen, h])
  have b1 : i ≤ cap := by omega
  have b2 : i + 1 ≤ cap := by omega
  have hp0 : (0 : Int) ≤ (i : Int) + 1 := by omega
  have hp1 : (i : Int) + 1 ≤ (i : Int) + d + 1 := by omega
  have hp2 : ((i : Int) + 1).toNat = i + 1 := by omega
  have hp4 : (0 : Int) ≤ (i : Int) + d + 1 := by omega
  have hp5 : (i : Int) + d + 1 ≤ (cap : Int) := by omega
  have hp3 : ((i : Int) == (i : Int) + 1) = false := beq_eq_false_iff_ne.2 (by omega)
  have hp6 : ¬ cap = i + d := by omega
  have hp7 : (i : Int) + d ≤ (i : Int) + d + 1 := by omega
  have hp8 : (0 : Int) ≤ (i : Int) + d := by omega
  have hp9 : ((i : Int) + d).toNat = i + d := by omega
  have hpa : ((i : Int) + d + 1).toNat = i + d + 1 := by omega
  have hidc : i + d ≤ cap := by omega
  obtain ⟨A, hA, hAS⟩ : ∃ A : Addr, (if cap = i + 1 then some (⟨g, 0, none⟩ : Addr) else some ⟨g, (i + 1) * 2, none⟩) = some A ∧ Hid (∀ t u, news[t]? = some u → w.drew.cell? (A.add t) = some u) := by
    by_cases hce : cap = i + 1
    · refine ⟨_, if_pos hce, fun t u hu => ?_⟩
      rw [hnil.out (by omega)] at hu
      simp at hu
    · refine ⟨_, if_neg hce, fun t u hu => ?_⟩
      rw [Addr.add_lit]
      exact hsrc.out t u hu
  clear hfl hfg hnews hlen h h1 h2 HFG HNW hcap hnil hsrc
  go_enter Tryz.func38, Tryz.ntmps38
  go_wp2_with fail
  go_region_law (refine step_append_room rfl (.tmp 22) (.tmp 25) 47 rfl 81 i0 2 Tryz.underlying47 hi0 hz1 g 0 i cap (by simp [Act.eval, Act.put]) A d (cap - (i + 1)) news (by simp [Act.eval, Act.put]; try omega) s1.out hAS.out s2.out (by omega) (fun t ht => by rw [Nat.zero_add]; exact s3.out t (by rw [s1.out] at ht; omega)) ?_; rw [Nat.zero_add])
  generalize hW1 : w.drew.setCells g (i * 2) news = W1
  have HW1 := Lib.hid hW1.symm
  have hcl2 := hcl.out W1 HW1.out
  clear hW1
  go_wp2
  go_ret
  exact hg.out W1 HW1.out
end Go.Proofs.YtndillbimibecaaGreatDoor

/- A region that draws its order, inside a round's fence, one operation at a time. No program in sight. -/
namespace Go.Proofs.YtndillbimibecaaGreatDoor
set_option linter.unusedVariables false
open Go.RowKit

theorem wpIn_region_segs2 {n : Nat} {P : Program} {Q : Exit → Act → World → Prop} {id : Nat} {a : Act} {w : World} {l : List Oper} (lv : Nat) (bs fw fr : List Nat) (ss : List (List Nat × List Nat × Nat)) (hm : P.follows .mixedOrders = true) (hd : l.toArray.all (fun o => match o.op with | .defer _ => false | _ => true) = true) (hB : segsOk2 l bs fw fr ss = true) (S : World → Prop) (hS : S w.drew)
    (h : wpSegs2 P l (onlyN (Q .normal)) bs.contains fw fr ss S a w.drew) : (Code.region id l.toArray true).wpIn (Fence.wide.inRound lv) n P Q a w := by
  simp only [segsOk2, Bool.and_eq_true, decide_eq_true_eq] at hB
  obtain ⟨⟨⟨⟨⟨⟨h1, h3⟩, h4⟩, h6⟩, h7⟩, h8⟩, h9⟩ := hB
  refine wpIn_region_out lv hm hd (wpAny_of_T (S := S) (b := bs.contains) (p := pureB l) _ _ _ _ ?_)
  refine Eq.mp (congrArg (fun k => wpAnyT P .any l.toArray (onlyN (Q .normal)) S bs.contains (pureB l) k (Array.replicate l.toArray.size false) a w.drew) h4) ?_
  refine wpT_segs2 h1 (fun _ _ _ _ _ h => h) (reads_of h8) (reads_of h9) ss S _ a w.drew (fun s hs => ?_) h3 (.inl hS) (fun k s hk hn => ?_) h
  · have := List.all_eq_true.1 h6 s hs
    simp only [Bool.and_eq_true] at this
    refine ⟨reads_of this.1.1, reads_of this.1.2, fun o ho => ?_⟩
    have h8 := this.2
    rw [ho] at h8
    simpa using h8
  · have hkl : k < ss.length := (List.getElem?_eq_some_iff.1 hk).1
    have h8 := List.all_eq_true.1 h7 k (List.mem_range.2 hkl)
    rw [hk] at h8
    simp only [Bool.or_eq_true, Bool.and_eq_true] at h8
    rcases h8 with h8 | ⟨h8, h9⟩
    · rw [hn] at h8; cases h8
    · refine ⟨by simpa using h8, fun s' hs' => ?_⟩
      have := List.all_eq_true.1 h9 s' hs'
      simpa using this
end Go.Proofs.YtndillbimibecaaGreatDoor

/- A loop over an iterator that keeps its state in a captured box (strings.SplitSeq): the iterator may turn that box between two rounds. No program in sight. -/
namespace Go.Proofs.YtndillbimibecaaGreatDoor
set_option linter.unusedVariables false
open Go.RowKit

/-- Three boxes of the iterator's own, from c on, lie as they lay. -/
def KeepC (c : Nat) (W W' : World) : Prop := ∀ k, c ≤ k → k < c + 3 → W'.heap[k]? = W.heap[k]?
theorem KeepC.refl (c : Nat) (W : World) : KeepC c W W := fun _ _ _ => rfl
theorem KeepC.trans {c : Nat} {A B C : World} (h : KeepC c A B) (k : KeepC c B C) : KeepC c A C := fun i h1 h2 => (k i h1 h2).trans (h i h1 h2)
theorem KeepC.grown {c : Nat} {A B : World} {row : Option Nat} (hg : A.grownBy B row) (hc : c + 3 ≤ A.heap.size) (hr : ∀ r, row = some r → r < c ∨ c + 3 ≤ r) : KeepC c A B := fun k h1 h2 =>
  hg.block k (by omega) (fun e => by rcases hr k e.symm with h | h <;> omega)

/-- An iterator whose whole list is 'all': it returns when all have come, the loop's body never leaving. -/
def SeqC {α : Type} (F : Fence) (n : Nat) (P : Program) (g : Nat) (lb : Array Value) (enc : α → Value) (c : Nat) (all : List α) (w : World) : Prop :=
  ∀ (l : Nat) (J : List α → World → Prop) (W : World), Below w.heap.size w W →
    (∀ s A B, J s A → A.grownBy B (some c) → J s B) →
    (∀ pre x W1, J pre W1 → (pre ++ [x]) <+: all → YieldAt F (n - 1) P l #[enc x] W1 fun e W' => e = .returned (.bool true) ∧ J (pre ++ [x]) W' ∧ KeepC c W1 W') →
    J [] W →
    CallsIn F n P g (#[.func (.yield l) #[] #[]] ++ lb) W fun e W' => (∃ v, e = .returned v) ∧ J all W'

def postC {α : Type} (c : Nat) (I : List α → World → Prop) (xs : List α) (W : World) : Exit → Act → World → Prop
  | .normal, _, W' => KeepsOthers W W' ∧ KeepC c W W' ∧ I xs W'
  | _, _, _ => False

variable {F : Fence} {n : Nat} {P : Program}

theorem wpIn_seqC {α : Type} {g : Operand} {ps : Array Tmp} {assign body : Code} {Q : Exit → Act → World → Prop} {a : Act} {w : World}
    (hro : F.round = none) (h1 : 1 ≤ n) {gf : Nat} {lb : Array Value} (hg : a.eval g = .func (.func gf) #[] lb) (hFg : F.fn gf) (eg : ∀ args w, (callFunc gf args).run P w = .ok (.enter gf args) w)
    {enc : α → Value} {c : Nat} {all : List α} {w0 : World} (hseq : SeqC F (n - 1) P gf lb enc c all w0) (hc : c + 3 ≤ w.heap.size) (hb0 : Below w0.heap.size w0 w) (hps : 1 = ps.size)
    (I : List α → World → Prop) (hI : OwnFrom w.heap.size I) (hIc : ∀ s A B, I s A → A.grownBy B (some c) → I s B) (h0 : I [] w) (a₁ : α → Act)
    (hassign : ∀ (l : Nat) (x : α) (W : World) (K : Act → World → Prop), K (a₁ x) W →
      assign.wpIn (F.inRound l) (n - 1 - 1) P (Exit.then K (fun _ _ _ => False)) { tmps := (ps.zip #[enc x]).foldl (fun t (p, v) => t.setIfInBounds p v) a.tmps, defers := [] } W)
    (hbody : ∀ (l : Nat) (pre : List α) (x : α) (W : World), I pre W → (pre ++ [x]) <+: all → body.wpIn (F.inRound l) (n - 1 - 1) P (postC c I (pre ++ [x]) W) (a₁ x) W)
    (hdone : ∀ (D : Nat) (W : World), w.heap.size ≤ D → I all W → W.heap[D]? = some (.deferred (some [])) → Q .normal { a with defers := { target := .collected D, args := #[] } :: a.defers } W) :
    (Code.rangeFunc g ps assign body).wpIn F n P Q a w := by
  refine wpIn_rangeFunc fun fn hfn => ?_
  rw [hro]
  -- the loop's record at D + 1, the block for deferred calls at D
  obtain ⟨D, hD⟩ : ∃ D, D = w.heap.size := ⟨_, rfl⟩
  obtain ⟨rec, hrec⟩ : ∃ rec : LoopState → Loop, rec = fun st => { state := st, pending := none, fn, tmps := a.tmps, params := ps, assign, body, defers := w.heap.size } := ⟨_, rfl⟩
  have hI1 : I [] ((w.alloc (.deferred (some []))).alloc (.loop (rec .ready))) := hI.alloc _ (hI.alloc _ h0)
  have hL1 : ((w.alloc (.deferred (some []))).alloc (.loop (rec .ready))).heap[D + 1]? = some (.loop (rec .ready)) := by
    have := World.alloc_heap_new (w.alloc (.deferred (some []))) (.loop (rec .ready))
    rw [World.size_alloc] at this
    rw [hD]; exact this
  have hK1 : ((w.alloc (.deferred (some []))).alloc (.loop (rec .ready))).heap[D]? = some (.deferred (some [])) := by
    rw [hD]
    exact (Below.heap_alloc _ _ _ (by simp)).trans (World.alloc_heap_new w _)
  have hb1 : Below w0.heap.size w0 ((w.alloc (.deferred (some []))).alloc (.loop (rec .ready))) :=
    hb0.trans ((((Below.refl _ w).alloc (Nat.le_refl _) _).alloc (by simp) _).mono hb0.size)
  have hrun : (Instr.enterLoop fn a.tmps ps assign body none).run P w = .ok (D + 1, [{ target := .collected D, args := #[] }]) ((w.alloc (.deferred (some []))).alloc (.loop (rec .ready))) := by
    rw [hD, hrec]; exact run_enterLoop_outer _ _ _ _ _
  generalize (w.alloc (.deferred (some []))).alloc (.loop (rec .ready)) = W1 at hI1 hL1 hK1 hb1 hrun
  refine ⟨D + 1, [{ target := .collected D, args := #[] }], W1, { target := .fn (.func gf) lb, args := #[.func (.yield (D + 1)) #[] #[]] }, W1, gf,
    #[.func (.yield (D + 1)) #[] #[]] ++ lb, W1, hrun, ?_, ?_, ?_, fun _ => h1, ?_⟩
  · simp only [resolve, hg]
    simp [go_sem]
  · intro f' hf'; simp [Target.leads] at hf'; subst hf'; exact hFg
  · simp [invoke, go_sem, eg]
  · refine (hseq (D + 1)
      (fun pre W => I pre W ∧ W.heap[D + 1]? = some (.loop (rec .ready)) ∧ W.heap[D]? = some (.deferred (some [])))
      W1 hb1 ?_ ?_ ⟨hI1, hL1, hK1⟩).mono ?_
    · rintro s A B ⟨hi, hl, hk⟩ hg'
      have l1 := (Array.getElem?_eq_some_iff.1 hl).1
      exact ⟨hIc s A B hi hg', (hg'.block _ l1 (fun e => by cases e; omega)).trans hl, (hg'.block _ (by omega) (fun e => by cases e; omega)).trans hk⟩
    · -- one round
      rintro pre x W ⟨hi, hl, hk⟩ hpre
      have hlt : D + 1 < W.heap.size := (Array.getElem?_eq_some_iff.1 hl).1
      have hy := run_yield (P := P) (args := #[enc x]) hl (by rw [hrec]; exact hps)
      have hst : (rec .ready).state = .ready := by rw [hrec]
      have hy' : (Instr.yield (D + 1) #[enc x]).run P W = .ok (.round (D + 1) fn ((ps.zip #[enc x]).foldl (fun t (p, v) => t.setIfInBounds p v) a.tmps) assign body) W := by
        rw [hrec] at hy; exact hy
      have hbusy : ({ rec .ready with state := .busy } : Loop) = rec .busy := by rw [hrec]
      refine ⟨fn, _, assign, body, hy', roundIn_of_wpIn hfn (hassign _ x W _ ⟨_, run_beginRound hl hst, ?_⟩)⟩
      rw [hbusy]
      have hg2 : W.grownBy (W.putObj (D + 1) (.loop (rec .busy))) (some (D + 1)) := grownBy_putObj' W (D + 1) _
      have hl2 : (W.putObj (D + 1) (.loop (rec .busy))).heap[D + 1]? = some (.loop (rec .busy)) := World.putObj_heap_same hlt
      have hk2 : (W.putObj (D + 1) (.loop (rec .busy))).heap[D]? = some (.deferred (some [])) := (World.putObj_heap_other (by omega)).trans hk
      have hc2 : KeepC c W (W.putObj (D + 1) (.loop (rec .busy))) := KeepC.grown hg2 (by omega) (fun r e => by cases e; omega)
      have hi2 : I pre (W.putObj (D + 1) (.loop (rec .busy))) := hI.putObj _ hi (by omega) hl rfl
      generalize W.putObj (D + 1) (.loop (rec .busy)) = W2 at hg2 hl2 hk2 hc2 hi2
      refine wpIn_mono (hbody _ pre x _ hi2 hpre) ?_
      rintro e a3 W3 hp
      cases e with
      | normal =>
        obtain ⟨hk3, hkc3, hi3⟩ := hp
        have hl3 := hk3.same _ _ hl2 rfl
        have hd3 := hk3.same _ _ hk2 rfl
        have hlt3 := (Array.getElem?_eq_some_iff.1 hl3).1
        have hr := run_endRound (P := P) none hl3
        have hready : ({ rec .busy with state := .ready, pending := none } : Loop) = rec .ready := by rw [hrec]
        simp only [Option.isNone_none, if_true] at hr
        rw [hready] at hr
        exact ⟨_, _, hr, rfl, ⟨hI.putObj _ hi3 (by omega) hl3 rfl, World.putObj_heap_same hlt3, (World.putObj_heap_other (by omega)).trans hd3⟩,
          (hc2.trans hkc3).trans (KeepC.grown (grownBy_putObj' W3 (D + 1) _) (by omega) (fun r e => by cases e; omega))⟩
      | _ => exact hp.elim
    · rintro e W2 ⟨⟨v, rfl⟩, hi, hl, hk⟩
      have hne : (rec .ready).state ≠ .busy := by rw [hrec]; simp
      refine ⟨none, _, ?_, hdone D _ (by omega) (hI.putObj (.loop { rec .ready with state := .exhausted }) hi (by omega) hl rfl) ((World.putObj_heap_other (by omega)).trans hk)⟩
      have := run_endLoop (P := P) hl hne
      rw [hrec] at this ⊢
      exact this
end Go.Proofs.YtndillbimibecaaGreatDoor

/- What a piece of a walk keeps: blocks below m, but for some boxes that it writes. No program in sight. -/
namespace Go.Proofs.YtndillbimibecaaGreatDoor
set_option linter.unusedVariables false
open Go.RowKit

structure KeepM (m : Nat) (X : Nat → Prop) (W W' : World) : Prop where
  os : W'.os = W.os
  tape : W'.tape = W.tape
  output : W'.output = W.output
  size : W.heap.size ≤ W'.heap.size
  block : ∀ k, k < m → ¬ X k → W'.heap[k]? = W.heap[k]?
  others : KeepsOthers W W'
variable {m : Nat} {X : Nat → Prop} {A W W' : World}
theorem KeepM.refl (m : Nat) (X : Nat → Prop) (W : World) : KeepM m X W W := ⟨rfl, rfl, rfl, Nat.le_refl _, fun _ _ _ => rfl, KeepsOthers.refl _⟩
theorem KeepM.trans (h : KeepM m X A W) (k : KeepM m X W W') : KeepM m X A W' :=
  ⟨k.os.trans h.os, k.tape.trans h.tape, k.output.trans h.output, Nat.le_trans h.size k.size, fun i hi hx => (k.block i hi hx).trans (h.block i hi hx), h.others.trans k.others⟩
theorem KeepM.alloc (h : KeepM m X A W) (hm : m ≤ W.heap.size) (o : Obj) : KeepM m X A (W.alloc o) :=
  h.trans ⟨rfl, rfl, rfl, by simp, fun k hk _ => Below.heap_alloc W o k (by omega), KeepsOthers.alloc W o⟩
theorem KeepM.drew (h : KeepM m X A W) : KeepM m X A W.drew := h.trans ⟨rfl, rfl, rfl, Nat.le_refl _, fun _ _ _ => rfl, ⟨Nat.le_refl _, fun _ _ h _ => h⟩⟩
theorem KeepM.put (h : KeepM m X A W) {B : Nat} (hB : X B) (v : Value) : KeepM m X A (W.setCell ⟨B, 0, none⟩ v) :=
  h.trans ⟨rfl, rfl, rfl, (grownBy_setCell' W B v).size, fun k _ hx => Below.heap_setCell W _ v k (fun e => hx (by cases e; exact hB)), KeepsOthers.setCell _ _ _⟩
theorem KeepM.grown (h : KeepM m X A W) (hm : m ≤ W.heap.size) {v : Value} {e : TypeId} {size k : Nat} {xs : List Value} (hrow : W.ownsRow m e size v k xs) (hg : W.grownBy W' v.ownBlock) : KeepM m X A W' := by
  refine h.trans ⟨hg.os, hg.tape, hg.output, hg.size, fun i hi _ => hg.block i (by omega) (fun ei => ?_), KeepsOthers.of_grownBy hg fun j o ej hj => ?_⟩
  · rcases hrow.2 with ⟨rfl, _⟩ | ⟨g, cap, cur, rfl, hgb, _, _⟩
    · simp [Value.ownBlock] at ei
    · obtain rfl : i = g := by simpa [Value.ownBlock] using ei
      omega
  · rcases hrow.2 with ⟨rfl, _⟩ | ⟨g, cap, cur, rfl, _, hgb, _⟩
    · simp [Value.ownBlock] at ej
    · obtain rfl : g = j := by simpa [Value.ownBlock] using ej
      rw [hgb] at hj; cases hj; rfl
theorem KeepM.box {B : Nat} {t : TypeId} {v : Value} (h : KeepM m X W W') (hv : Boxed W B t v) (h1 : B < m) (h2 : ¬ X B) : Boxed W' B t v := (h.block B h1 h2).trans hv
theorem KeepM.below {n₀ : Nat} (h : KeepM m X W W') (h1 : n₀ ≤ m) (h2 : ∀ k, k < n₀ → ¬ X k) : Below n₀ W W' := ⟨h.os, h.tape, h.output, h.size, fun k hk => h.block k (by omega) (h2 k hk)⟩
theorem KeepM.keepC {c : Nat} (h : KeepM m X W W') (h1 : c + 3 ≤ m) (h2 : ∀ k, c ≤ k → k < c + 3 → ¬ X k) : KeepC c W W' := fun k a b => h.block k (by omega) (h2 k a b)
theorem KeepM.wide {X' : Nat → Prop} (h : KeepM m X W W') (hx : ∀ k, X k → X' k) : KeepM m X' W W' := ⟨h.os, h.tape, h.output, h.size, fun k hk hn => h.block k hk (fun e => hn (hx k e)), h.others⟩
/-- A row that begins behind m abides what happens to boxes below m. -/
theorem rowPut {W : World} {m B : Nat} {e : TypeId} {size k : Nat} {v x : Value} {xs : List Value} (hrow : W.ownsRow m e size v k xs) (hB : B < m) : (W.setCell ⟨B, 0, none⟩ x).ownsRow m e size v k xs := by
  refine hrow.kept (grownBy_setCell' W B x) (.inr fun ei => ?_)
  rcases hrow.2 with ⟨rfl, _⟩ | ⟨g, cap, cur, rfl, hgb, _, _⟩
  · simp [Value.ownBlock] at ei
  · obtain rfl : g = B := by simpa [Value.ownBlock] using ei
    omega
end Go.Proofs.YtndillbimibecaaGreatDoor

/- The shelf contracts that these proofs use, laid at this translation. -/
namespace Go.Proofs
open Go.Shelf
def Tryz.lays156_ren : Go.Shelf.Ren := ⟨fun | 156 => 45 | 165 => 64 | 166 => 65 | 169 => 67 | 240 => 117 | 241 => 118 | 276 => 147 | 277 => 148 | n => n, fun | 31 => 55 | 9 => 9 | 3 => 3 | 4 => 4 | 0 => 0 | 20 => 20 | 72 => 120 | 76 => 124 | 70 => 117 | 37 => 118 | 75 => 123 | 127 => 160 | 164 => 181 | 5 => 5 | 80 => 126 | n => n, fun | n => n⟩
theorem Tryz.lays156 : Go.Proofs.Lays.n156 Tryz.prog Tryz.lays156_ren := {
  mixed := by kernel_rfl
  f156 := Tryz.func45.trans (congrArg some (by kernel_rfl))
  f165 := Tryz.func64.trans (congrArg some (by kernel_rfl))
  f166 := Tryz.func65.trans (congrArg some (by kernel_rfl))
  f169 := Tryz.func67.trans (congrArg some (by kernel_rfl))
  f240 := Tryz.func117.trans (congrArg some (by kernel_rfl))
  f241 := Tryz.func118.trans (congrArg some (by kernel_rfl))
  f276 := Tryz.func147.trans (congrArg some (by kernel_rfl))
  f277 := Tryz.func148.trans (congrArg some (by kernel_rfl))
  t0 := Tryz.underlying0
  a0 := Tryz.isAgg0
  z0 := Tryz.sizeOf0
  v0 := Tryz.zeroValue0
  t3 := Tryz.underlying3
  a3 := Tryz.isAgg3
  z3 := Tryz.sizeOf3
  v3 := Tryz.zeroValue3
  t4 := Tryz.underlying4
  a4 := Tryz.isAgg4
  z4 := Tryz.sizeOf4
  v4 := Tryz.zeroValue4
  t9 := Tryz.underlying9
  a9 := Tryz.isAgg9
  z9 := Tryz.sizeOf9
  v9 := Tryz.zeroValue9
  t20 := Tryz.underlying20
  a20 := Tryz.isAgg20
  z20 := Tryz.sizeOf20
  v20 := Tryz.zeroValue20
  t31 := Tryz.underlying55
  a31 := Tryz.isAgg55
  z31 := Tryz.sizeOf55
  v31 := Tryz.zeroValue55
  t37 := Tryz.underlying118
  a37 := Tryz.isAgg118
  z37 := Tryz.sizeOf118
  v37 := Tryz.zeroValue118
  t70 := Tryz.underlying117
  a70 := Tryz.isAgg117
  z70 := Tryz.sizeOf117
  v70 := Tryz.zeroValue117
  t72 := Tryz.underlying120
  a72 := Tryz.isAgg120
  z72 := Tryz.sizeOf120
  v72 := Tryz.zeroValue120
  t75 := Tryz.underlying123
  a75 := Tryz.isAgg123
  z75 := Tryz.sizeOf123
  v75 := Tryz.zeroValue123
  t76 := Tryz.underlying124
  a76 := Tryz.isAgg124
  z76 := Tryz.sizeOf124
  v76 := Tryz.zeroValue124
  t127 := Tryz.underlying160
  a127 := Tryz.isAgg160
  z127 := Tryz.sizeOf160
  v127 := Tryz.zeroValue160
  t164 := Tryz.underlying181
  a164 := Tryz.isAgg181
  z164 := Tryz.sizeOf181
  v164 := Tryz.zeroValue181 }
theorem Tryz.Builder_Extra_156 : Builder.Extra Tryz.prog Tryz.lays156_ren := {
  sizeBuilder := by kernel_rfl
  liesBuilder := by kernel_rfl
  t5 := Tryz.underlying5
  a5 := Tryz.isAgg5
  z5 := Tryz.sizeOf5
  v5 := Tryz.zeroValue5
  infoByte := by kernel_rfl
  cellsByte := by kernel_rfl
  sizeByte := by kernel_rfl
  neB5 := by decide }
def Tryz.lays161_ren : Go.Shelf.Ren := ⟨fun | 161 => 153 | 231 => 158 | 227 => 156 | 233 => 160 | 235 => 162 | 228 => 157 | 197 => 165 | 151 => 178 | 260 => 180 | 152 => 154 | 137 => 137 | 119 => 177 | 224 => 174 | 225 => 173 | 217 => 167 | 266 => 181 | n => n, fun | 9 => 9 | 4 => 4 | 3 => 3 | 5 => 5 | 117 => 201 | 116 => 200 | 0 => 0 | 124 => 205 | 105 => 207 | 21 => 21 | 119 => 136 | 46 => 113 | 139 => 222 | 138 => 221 | n => n, fun | 3 => 6 | 4 => 7 | n => n⟩
theorem Tryz.lays161 : Go.Proofs.Lays.n161 Tryz.prog Tryz.lays161_ren := {
  mixed := by kernel_rfl
  f119 := Tryz.func177.trans (congrArg some (by kernel_rfl))
  f137 := Tryz.func137.trans (congrArg some (by kernel_rfl))
  f151 := Tryz.func178.trans (congrArg some (by kernel_rfl))
  f152 := Tryz.func154.trans (congrArg some (by kernel_rfl))
  f161 := Tryz.func153.trans (congrArg some (by kernel_rfl))
  f197 := Tryz.func165.trans (congrArg some (by kernel_rfl))
  f217 := Tryz.func167.trans (congrArg some (by kernel_rfl))
  f224 := Tryz.func174.trans (congrArg some (by kernel_rfl))
  f225 := Tryz.func173.trans (congrArg some (by kernel_rfl))
  f227 := Tryz.func156.trans (congrArg some (by kernel_rfl))
  f228 := Tryz.func157.trans (congrArg some (by kernel_rfl))
  f231 := Tryz.func158.trans (congrArg some (by kernel_rfl))
  f233 := Tryz.func160.trans (congrArg some (by kernel_rfl))
  f235 := Tryz.func162.trans (congrArg some (by kernel_rfl))
  f260 := Tryz.func180.trans (congrArg some (by kernel_rfl))
  f266 := Tryz.func181.trans (congrArg some (by kernel_rfl))
  t0 := Tryz.underlying0
  a0 := Tryz.isAgg0
  z0 := Tryz.sizeOf0
  v0 := Tryz.zeroValue0
  t3 := Tryz.underlying3
  a3 := Tryz.isAgg3
  z3 := Tryz.sizeOf3
  v3 := Tryz.zeroValue3
  t4 := Tryz.underlying4
  a4 := Tryz.isAgg4
  z4 := Tryz.sizeOf4
  v4 := Tryz.zeroValue4
  t5 := Tryz.underlying5
  a5 := Tryz.isAgg5
  z5 := Tryz.sizeOf5
  v5 := Tryz.zeroValue5
  t9 := Tryz.underlying9
  a9 := Tryz.isAgg9
  z9 := Tryz.sizeOf9
  v9 := Tryz.zeroValue9
  t21 := Tryz.underlying21
  a21 := Tryz.isAgg21
  z21 := Tryz.sizeOf21
  v21 := Tryz.zeroValue21
  t46 := Tryz.underlying113
  a46 := Tryz.isAgg113
  z46 := Tryz.sizeOf113
  v46 := Tryz.zeroValue113
  t105 := Tryz.underlying207
  a105 := Tryz.isAgg207
  z105 := Tryz.sizeOf207
  v105 := Tryz.zeroValue207
  t116 := Tryz.underlying200
  a116 := Tryz.isAgg200
  z116 := Tryz.sizeOf200
  t117 := Tryz.underlying201
  a117 := Tryz.isAgg201
  z117 := Tryz.sizeOf201
  v117 := Tryz.zeroValue201
  t119 := Tryz.underlying136
  a119 := Tryz.isAgg136
  z119 := Tryz.sizeOf136
  t124 := Tryz.underlying205
  a124 := Tryz.isAgg205
  z124 := Tryz.sizeOf205
  v124 := Tryz.zeroValue205
  t138 := Tryz.underlying221
  a138 := Tryz.isAgg221
  z138 := Tryz.sizeOf221
  v138 := Tryz.zeroValue221
  t139 := Tryz.underlying222
  a139 := Tryz.isAgg222
  z139 := Tryz.sizeOf222
  v139 := Tryz.zeroValue222
  g3 := by kernel_rfl
  g4 := by kernel_rfl }
def Tryz.lays160_ren : Go.Shelf.Ren := ⟨fun | 160 => 133 | 232 => 159 | 231 => 158 | 227 => 156 | 234 => 161 | 233 => 160 | 236 => 163 | 235 => 162 | 228 => 157 | 271 => 179 | 151 => 178 | 197 => 165 | 120 => 187 | 152 => 154 | 260 => 180 | 137 => 137 | 119 => 177 | 224 => 174 | 225 => 173 | 217 => 167 | 266 => 181 | n => n, fun | 9 => 9 | 4 => 4 | 3 => 3 | 5 => 5 | 117 => 201 | 116 => 200 | 0 => 0 | 124 => 205 | 21 => 21 | 105 => 207 | 46 => 113 | 119 => 136 | 139 => 222 | 138 => 221 | n => n, fun | 3 => 6 | 4 => 7 | n => n⟩
theorem Tryz.lays160 : Go.Proofs.Lays.n160 Tryz.prog Tryz.lays160_ren := {
  mixed := by kernel_rfl
  f119 := Tryz.func177.trans (congrArg some (by kernel_rfl))
  f120 := Tryz.func187.trans (congrArg some (by kernel_rfl))
  f137 := Tryz.func137.trans (congrArg some (by kernel_rfl))
  f151 := Tryz.func178.trans (congrArg some (by kernel_rfl))
  f152 := Tryz.func154.trans (congrArg some (by kernel_rfl))
  f160 := Tryz.func133.trans (congrArg some (by kernel_rfl))
  f197 := Tryz.func165.trans (congrArg some (by kernel_rfl))
  f217 := Tryz.func167.trans (congrArg some (by kernel_rfl))
  f224 := Tryz.func174.trans (congrArg some (by kernel_rfl))
  f225 := Tryz.func173.trans (congrArg some (by kernel_rfl))
  f227 := Tryz.func156.trans (congrArg some (by kernel_rfl))
  f228 := Tryz.func157.trans (congrArg some (by kernel_rfl))
  f231 := Tryz.func158.trans (congrArg some (by kernel_rfl))
  f232 := Tryz.func159.trans (congrArg some (by kernel_rfl))
  f233 := Tryz.func160.trans (congrArg some (by kernel_rfl))
  f234 := Tryz.func161.trans (congrArg some (by kernel_rfl))
  f235 := Tryz.func162.trans (congrArg some (by kernel_rfl))
  f236 := Tryz.func163.trans (congrArg some (by kernel_rfl))
  f260 := Tryz.func180.trans (congrArg some (by kernel_rfl))
  f266 := Tryz.func181.trans (congrArg some (by kernel_rfl))
  f271 := Tryz.func179.trans (congrArg some (by kernel_rfl))
  t0 := Tryz.underlying0
  a0 := Tryz.isAgg0
  z0 := Tryz.sizeOf0
  v0 := Tryz.zeroValue0
  t3 := Tryz.underlying3
  a3 := Tryz.isAgg3
  z3 := Tryz.sizeOf3
  v3 := Tryz.zeroValue3
  t4 := Tryz.underlying4
  a4 := Tryz.isAgg4
  z4 := Tryz.sizeOf4
  v4 := Tryz.zeroValue4
  t5 := Tryz.underlying5
  a5 := Tryz.isAgg5
  z5 := Tryz.sizeOf5
  v5 := Tryz.zeroValue5
  t9 := Tryz.underlying9
  a9 := Tryz.isAgg9
  z9 := Tryz.sizeOf9
  v9 := Tryz.zeroValue9
  t21 := Tryz.underlying21
  a21 := Tryz.isAgg21
  z21 := Tryz.sizeOf21
  v21 := Tryz.zeroValue21
  t46 := Tryz.underlying113
  a46 := Tryz.isAgg113
  z46 := Tryz.sizeOf113
  v46 := Tryz.zeroValue113
  t105 := Tryz.underlying207
  a105 := Tryz.isAgg207
  z105 := Tryz.sizeOf207
  v105 := Tryz.zeroValue207
  t116 := Tryz.underlying200
  a116 := Tryz.isAgg200
  z116 := Tryz.sizeOf200
  t117 := Tryz.underlying201
  a117 := Tryz.isAgg201
  z117 := Tryz.sizeOf201
  v117 := Tryz.zeroValue201
  t119 := Tryz.underlying136
  a119 := Tryz.isAgg136
  z119 := Tryz.sizeOf136
  t124 := Tryz.underlying205
  a124 := Tryz.isAgg205
  z124 := Tryz.sizeOf205
  v124 := Tryz.zeroValue205
  t138 := Tryz.underlying221
  a138 := Tryz.isAgg221
  z138 := Tryz.sizeOf221
  v138 := Tryz.zeroValue221
  t139 := Tryz.underlying222
  a139 := Tryz.isAgg222
  z139 := Tryz.sizeOf222
  v139 := Tryz.zeroValue222
  g3 := by kernel_rfl
  g4 := by kernel_rfl }
def Tryz.lays137_ren : Go.Shelf.Ren := ⟨fun | 137 => 137 | 217 => 167 | 266 => 181 | n => n, fun | 9 => 9 | 5 => 5 | 3 => 3 | n => n, fun | n => n⟩
theorem Tryz.lays137 : Go.Proofs.Lays.n137 Tryz.prog Tryz.lays137_ren := {
  mixed := by kernel_rfl
  f137 := Tryz.func137.trans (congrArg some (by kernel_rfl))
  f217 := Tryz.func167.trans (congrArg some (by kernel_rfl))
  f266 := Tryz.func181.trans (congrArg some (by kernel_rfl))
  t3 := Tryz.underlying3
  a3 := Tryz.isAgg3
  z3 := Tryz.sizeOf3
  v3 := Tryz.zeroValue3
  t5 := Tryz.underlying5
  a5 := Tryz.isAgg5
  z5 := Tryz.sizeOf5
  v5 := Tryz.zeroValue5
  t9 := Tryz.underlying9
  a9 := Tryz.isAgg9
  z9 := Tryz.sizeOf9
  v9 := Tryz.zeroValue9 }
open Go.RowKit in
theorem Tryz.strings_IndexByte (s : ByteArray) (c : Int) (w : World) :
    Calls Tryz.prog 137 #[.string s, .int .u8 c] w fun e w' => e = .returned (.int .i64 (Lib.indexByte s.data.toList c.toNat.toUInt8)) ∧ w' = w := Any.strings_IndexByte Tryz.lays137 s c w
def Tryz.lays103_ren : Go.Shelf.Ren := ⟨fun | 103 => 53 | 210 => 99 | 206 => 116 | n => n, fun | 9 => 9 | 4 => 4 | 24 => 98 | 3 => 3 | n => n, fun | n => n⟩
theorem Tryz.lays103 : Go.Proofs.Lays.n103 Tryz.prog Tryz.lays103_ren := {
  mixed := by kernel_rfl
  f103 := Tryz.func53.trans (congrArg some (by kernel_rfl))
  f206 := Tryz.func116.trans (congrArg some (by kernel_rfl))
  f210 := Tryz.func99.trans (congrArg some (by kernel_rfl))
  t3 := Tryz.underlying3
  a3 := Tryz.isAgg3
  z3 := Tryz.sizeOf3
  v3 := Tryz.zeroValue3
  t4 := Tryz.underlying4
  a4 := Tryz.isAgg4
  z4 := Tryz.sizeOf4
  v4 := Tryz.zeroValue4
  t9 := Tryz.underlying9
  a9 := Tryz.isAgg9
  z9 := Tryz.sizeOf9
  v9 := Tryz.zeroValue9
  t24 := Tryz.underlying98
  a24 := Tryz.isAgg98
  z24 := Tryz.sizeOf98
  v24 := Tryz.zeroValue98 }
open Go.RowKit in
theorem Tryz.strings_CutPrefix (s p : ByteArray) (w : World) :
    Calls Tryz.prog 53 #[.string s, .string p] w fun e w' => e = .returned (.tuple #[.string ⟨(Lib.trimPrefix s.data.toList p.data.toList).toArray⟩, .bool (Lib.hasPrefix s.data.toList p.data.toList)]) ∧ w' = w := Any.strings_CutPrefix Tryz.lays103 s p w
def Tryz.laysM171_ren : Go.Shelf.Ren := ⟨fun | 171 => 16 | 243 => 34 | 246 => 61 | 283 => 110 | 284 => 111 | 285 => 112 | 286 => 113 | 129 => 143 | 317 => 142 | 318 => 144 | 319 => 145 | 320 => 146 | 337 => 171 | 338 => 172 | n => n, fun | 3 => 3 | 9 => 9 | 2 => 2 | 4 => 4 | 171 => 149 | 0 => 0 | 53 => 150 | 37 => 118 | 5 => 5 | 173 => 153 | 212 => 178 | 51 => 155 | 20 => 20 | 213 => 179 | 46 => 113 | 232 => 217 | 233 => 218 | n => n, fun | 17 => 2 | 18 => 4 | 19 => 5 | n => n⟩
theorem Tryz.laysM171 : Go.Proofs.LaysM.n171 Tryz.prog Tryz.laysM171_ren := {
  mixed := by kernel_rfl
  f129 := Tryz.func143.trans (congrArg some (by kernel_rfl))
  f171 := Tryz.func16.trans (congrArg some (by kernel_rfl))
  f243 := Tryz.func34.trans (congrArg some (by kernel_rfl))
  f246 := Tryz.func61.trans (congrArg some (by kernel_rfl))
  f283 := Tryz.func110.trans (congrArg some (by kernel_rfl))
  f284 := Tryz.func111.trans (congrArg some (by kernel_rfl))
  f285 := Tryz.func112.trans (congrArg some (by kernel_rfl))
  f286 := Tryz.func113.trans (congrArg some (by kernel_rfl))
  f317 := Tryz.func142.trans (congrArg some (by kernel_rfl))
  f318 := Tryz.func144.trans (congrArg some (by kernel_rfl))
  f319 := Tryz.func145.trans (congrArg some (by kernel_rfl))
  f320 := Tryz.func146.trans (congrArg some (by kernel_rfl))
  f337 := Tryz.func171.trans (congrArg some (by kernel_rfl))
  f338 := Tryz.func172.trans (congrArg some (by kernel_rfl))
  t0 := Tryz.underlying0
  a0 := Tryz.isAgg0
  z0 := Tryz.sizeOf0
  v0 := Tryz.zeroValue0
  t2 := Tryz.underlying2
  a2 := Tryz.isAgg2
  z2 := Tryz.sizeOf2
  v2 := Tryz.zeroValue2
  t3 := Tryz.underlying3
  a3 := Tryz.isAgg3
  z3 := Tryz.sizeOf3
  v3 := Tryz.zeroValue3
  t4 := Tryz.underlying4
  a4 := Tryz.isAgg4
  z4 := Tryz.sizeOf4
  v4 := Tryz.zeroValue4
  t5 := Tryz.underlying5
  a5 := Tryz.isAgg5
  z5 := Tryz.sizeOf5
  v5 := Tryz.zeroValue5
  t9 := Tryz.underlying9
  a9 := Tryz.isAgg9
  z9 := Tryz.sizeOf9
  v9 := Tryz.zeroValue9
  t20 := Tryz.underlying20
  a20 := Tryz.isAgg20
  z20 := Tryz.sizeOf20
  v20 := Tryz.zeroValue20
  t37 := Tryz.underlying118
  a37 := Tryz.isAgg118
  z37 := Tryz.sizeOf118
  v37 := Tryz.zeroValue118
  t46 := Tryz.underlying113
  a46 := Tryz.isAgg113
  z46 := Tryz.sizeOf113
  v46 := Tryz.zeroValue113
  t51 := Tryz.underlying155
  a51 := Tryz.isAgg155
  z51 := Tryz.sizeOf155
  v51 := Tryz.zeroValue155
  t53 := Tryz.underlying150
  a53 := Tryz.isAgg150
  z53 := Tryz.sizeOf150
  v53 := Tryz.zeroValue150
  t171 := Tryz.underlying149
  a171 := Tryz.isAgg149
  z171 := Tryz.sizeOf149
  v171 := Tryz.zeroValue149
  t173 := Tryz.underlying153
  a173 := Tryz.isAgg153
  z173 := Tryz.sizeOf153
  v173 := Tryz.zeroValue153
  t212 := Tryz.underlying178
  a212 := Tryz.isAgg178
  z212 := Tryz.sizeOf178
  v212 := Tryz.zeroValue178
  t213 := Tryz.underlying179
  a213 := Tryz.isAgg179
  z213 := Tryz.sizeOf179
  t232 := Tryz.underlying217
  a232 := Tryz.isAgg217
  z232 := Tryz.sizeOf217
  v232 := Tryz.zeroValue217
  t233 := Tryz.underlying218
  a233 := Tryz.isAgg218
  z233 := Tryz.sizeOf218
  v233 := Tryz.zeroValue218
  g17 := by kernel_rfl
  g18 := by kernel_rfl
  g19 := by kernel_rfl
  i0 := by kernel_rfl
  i2 := by kernel_rfl
  i3 := by kernel_rfl
  i4 := by kernel_rfl
  i5 := by kernel_rfl
  i9 := by kernel_rfl
  i20 := by kernel_rfl
  i37 := by kernel_rfl
  i46 := by kernel_rfl
  i51 := by kernel_rfl
  i53 := by kernel_rfl
  i171 := by kernel_rfl
  i173 := by kernel_rfl
  i212 := by kernel_rfl
  i232 := by kernel_rfl
  i233 := by kernel_rfl
  m17 := by kernel_rfl
  m18 := by kernel_rfl
  m19 := by kernel_rfl }
def Tryz.lays171_ren : Go.Shelf.Ren := ⟨fun | 171 => 16 | 243 => 34 | 246 => 61 | 283 => 110 | 284 => 111 | 285 => 112 | 286 => 113 | 129 => 143 | 317 => 142 | 318 => 144 | 319 => 145 | 320 => 146 | 337 => 171 | 338 => 172 | n => n, fun | 3 => 3 | 9 => 9 | 2 => 2 | 4 => 4 | 171 => 149 | 0 => 0 | 53 => 150 | 37 => 118 | 5 => 5 | 173 => 153 | 212 => 178 | 51 => 155 | 20 => 20 | 213 => 179 | 46 => 113 | 232 => 217 | 233 => 218 | n => n, fun | 17 => 2 | 18 => 4 | 19 => 5 | n => n⟩
theorem Tryz.lays171 : Go.Proofs.Lays.n171 Tryz.prog Tryz.lays171_ren := {
  mixed := by kernel_rfl
  f129 := Tryz.func143.trans (congrArg some (by kernel_rfl))
  f171 := Tryz.func16.trans (congrArg some (by kernel_rfl))
  f243 := Tryz.func34.trans (congrArg some (by kernel_rfl))
  f246 := Tryz.func61.trans (congrArg some (by kernel_rfl))
  f283 := Tryz.func110.trans (congrArg some (by kernel_rfl))
  f284 := Tryz.func111.trans (congrArg some (by kernel_rfl))
  f285 := Tryz.func112.trans (congrArg some (by kernel_rfl))
  f286 := Tryz.func113.trans (congrArg some (by kernel_rfl))
  f317 := Tryz.func142.trans (congrArg some (by kernel_rfl))
  f318 := Tryz.func144.trans (congrArg some (by kernel_rfl))
  f319 := Tryz.func145.trans (congrArg some (by kernel_rfl))
  f320 := Tryz.func146.trans (congrArg some (by kernel_rfl))
  f337 := Tryz.func171.trans (congrArg some (by kernel_rfl))
  f338 := Tryz.func172.trans (congrArg some (by kernel_rfl))
  t0 := Tryz.underlying0
  a0 := Tryz.isAgg0
  z0 := Tryz.sizeOf0
  v0 := Tryz.zeroValue0
  t2 := Tryz.underlying2
  a2 := Tryz.isAgg2
  z2 := Tryz.sizeOf2
  v2 := Tryz.zeroValue2
  t3 := Tryz.underlying3
  a3 := Tryz.isAgg3
  z3 := Tryz.sizeOf3
  v3 := Tryz.zeroValue3
  t4 := Tryz.underlying4
  a4 := Tryz.isAgg4
  z4 := Tryz.sizeOf4
  v4 := Tryz.zeroValue4
  t5 := Tryz.underlying5
  a5 := Tryz.isAgg5
  z5 := Tryz.sizeOf5
  v5 := Tryz.zeroValue5
  t9 := Tryz.underlying9
  a9 := Tryz.isAgg9
  z9 := Tryz.sizeOf9
  v9 := Tryz.zeroValue9
  t20 := Tryz.underlying20
  a20 := Tryz.isAgg20
  z20 := Tryz.sizeOf20
  v20 := Tryz.zeroValue20
  t37 := Tryz.underlying118
  a37 := Tryz.isAgg118
  z37 := Tryz.sizeOf118
  v37 := Tryz.zeroValue118
  t46 := Tryz.underlying113
  a46 := Tryz.isAgg113
  z46 := Tryz.sizeOf113
  v46 := Tryz.zeroValue113
  t51 := Tryz.underlying155
  a51 := Tryz.isAgg155
  z51 := Tryz.sizeOf155
  v51 := Tryz.zeroValue155
  t53 := Tryz.underlying150
  a53 := Tryz.isAgg150
  z53 := Tryz.sizeOf150
  v53 := Tryz.zeroValue150
  t171 := Tryz.underlying149
  a171 := Tryz.isAgg149
  z171 := Tryz.sizeOf149
  v171 := Tryz.zeroValue149
  t173 := Tryz.underlying153
  a173 := Tryz.isAgg153
  z173 := Tryz.sizeOf153
  v173 := Tryz.zeroValue153
  t212 := Tryz.underlying178
  a212 := Tryz.isAgg178
  z212 := Tryz.sizeOf178
  v212 := Tryz.zeroValue178
  t213 := Tryz.underlying179
  a213 := Tryz.isAgg179
  z213 := Tryz.sizeOf179
  t232 := Tryz.underlying217
  a232 := Tryz.isAgg217
  z232 := Tryz.sizeOf217
  v232 := Tryz.zeroValue217
  t233 := Tryz.underlying218
  a233 := Tryz.isAgg218
  z233 := Tryz.sizeOf218
  v233 := Tryz.zeroValue218
  g17 := by kernel_rfl
  g18 := by kernel_rfl
  g19 := by kernel_rfl }
open Go.RowKit Go.Sort Go.Lib in
theorem Tryz.strconv_Itoa_small (i : Nat) (hi : i < 100) (w : World) :
    Calls Tryz.prog 16 #[.int .i64 i] w fun e w' => e = .returned (.string ⟨(Lib.decDigits i).toArray⟩) ∧ w' = w := Any.strconv_Itoa_small Tryz.lays171 i hi w
def Tryz.lays219_ren : Go.Shelf.Ren := ⟨fun | 219 => 149 | 217 => 167 | 225 => 173 | 224 => 174 | 267 => 175 | 266 => 181 | 314 => 185 | n => n, fun | 9 => 9 | 3 => 3 | 4 => 4 | 5 => 5 | 46 => 113 | 146 => 156 | 51 => 155 | n => n, fun | 1 => 3 | n => n⟩
theorem Tryz.lays219 : Go.Proofs.Lays.n219 Tryz.prog Tryz.lays219_ren := {
  mixed := by kernel_rfl
  f217 := Tryz.func167.trans (congrArg some (by kernel_rfl))
  f219 := Tryz.func149.trans (congrArg some (by kernel_rfl))
  f224 := Tryz.func174.trans (congrArg some (by kernel_rfl))
  f225 := Tryz.func173.trans (congrArg some (by kernel_rfl))
  f266 := Tryz.func181.trans (congrArg some (by kernel_rfl))
  f267 := Tryz.func175.trans (congrArg some (by kernel_rfl))
  f314 := Tryz.func185.trans (congrArg some (by kernel_rfl))
  t3 := Tryz.underlying3
  a3 := Tryz.isAgg3
  z3 := Tryz.sizeOf3
  v3 := Tryz.zeroValue3
  t4 := Tryz.underlying4
  a4 := Tryz.isAgg4
  z4 := Tryz.sizeOf4
  v4 := Tryz.zeroValue4
  t5 := Tryz.underlying5
  a5 := Tryz.isAgg5
  z5 := Tryz.sizeOf5
  v5 := Tryz.zeroValue5
  t9 := Tryz.underlying9
  a9 := Tryz.isAgg9
  z9 := Tryz.sizeOf9
  v9 := Tryz.zeroValue9
  t46 := Tryz.underlying113
  a46 := Tryz.isAgg113
  z46 := Tryz.sizeOf113
  v46 := Tryz.zeroValue113
  t51 := Tryz.underlying155
  a51 := Tryz.isAgg155
  z51 := Tryz.sizeOf155
  v51 := Tryz.zeroValue155
  t146 := Tryz.underlying156
  a146 := Tryz.isAgg156
  z146 := Tryz.sizeOf156
  v146 := Tryz.zeroValue156
  g1 := by kernel_rfl }
open Go.RowKit Go.Lib in
theorem Tryz.stringslite_Index_one (s : ByteArray) (c : UInt8) (w : World) :
    Calls Tryz.prog 149 #[.string s, .string ⟨#[c]⟩] w fun e w' => e = .returned (.int .i64 (Lib.indexByte s.data.toList c)) ∧ w' = w := Any.stringslite_Index_one Tryz.lays219 s c w
def Tryz.lays143_ren : Go.Shelf.Ren := ⟨fun | 143 => 120 | 219 => 149 | 217 => 167 | 225 => 173 | 224 => 174 | 267 => 175 | 266 => 181 | 314 => 185 | n => n, fun | 9 => 9 | 3 => 3 | 4 => 4 | 5 => 5 | 46 => 113 | 146 => 156 | 51 => 155 | n => n, fun | 1 => 3 | n => n⟩
theorem Tryz.lays143 : Go.Proofs.Lays.n143 Tryz.prog Tryz.lays143_ren := {
  mixed := by kernel_rfl
  f143 := Tryz.func120.trans (congrArg some (by kernel_rfl))
  f217 := Tryz.func167.trans (congrArg some (by kernel_rfl))
  f219 := Tryz.func149.trans (congrArg some (by kernel_rfl))
  f224 := Tryz.func174.trans (congrArg some (by kernel_rfl))
  f225 := Tryz.func173.trans (congrArg some (by kernel_rfl))
  f266 := Tryz.func181.trans (congrArg some (by kernel_rfl))
  f267 := Tryz.func175.trans (congrArg some (by kernel_rfl))
  f314 := Tryz.func185.trans (congrArg some (by kernel_rfl))
  t3 := Tryz.underlying3
  a3 := Tryz.isAgg3
  z3 := Tryz.sizeOf3
  v3 := Tryz.zeroValue3
  t4 := Tryz.underlying4
  a4 := Tryz.isAgg4
  z4 := Tryz.sizeOf4
  v4 := Tryz.zeroValue4
  t5 := Tryz.underlying5
  a5 := Tryz.isAgg5
  z5 := Tryz.sizeOf5
  v5 := Tryz.zeroValue5
  t9 := Tryz.underlying9
  a9 := Tryz.isAgg9
  z9 := Tryz.sizeOf9
  v9 := Tryz.zeroValue9
  t46 := Tryz.underlying113
  a46 := Tryz.isAgg113
  z46 := Tryz.sizeOf113
  v46 := Tryz.zeroValue113
  t51 := Tryz.underlying155
  a51 := Tryz.isAgg155
  z51 := Tryz.sizeOf155
  v51 := Tryz.zeroValue155
  t146 := Tryz.underlying156
  a146 := Tryz.isAgg156
  z146 := Tryz.sizeOf156
  v146 := Tryz.zeroValue156
  g1 := by kernel_rfl }
open Go.RowKit Go.Lib in
theorem Tryz.strings_Index_one (s : ByteArray) (c : UInt8) (w : World) :
    Calls Tryz.prog 120 #[.string s, .string ⟨#[c]⟩] w fun e w' => e = .returned (.int .i64 (Lib.indexByte s.data.toList c)) ∧ w' = w := Any.strings_Index_one Tryz.lays143 s c w
def Tryz.lays144_ren : Go.Shelf.Ren := ⟨fun | 144 => 69 | 143 => 120 | 219 => 149 | 217 => 167 | 225 => 173 | 224 => 174 | 267 => 175 | 266 => 181 | 314 => 185 | n => n, fun | 9 => 9 | 4 => 4 | 3 => 3 | 5 => 5 | 46 => 113 | 146 => 156 | 51 => 155 | n => n, fun | 1 => 3 | n => n⟩
theorem Tryz.lays144 : Go.Proofs.Lays.n144 Tryz.prog Tryz.lays144_ren := {
  mixed := by kernel_rfl
  f143 := Tryz.func120.trans (congrArg some (by kernel_rfl))
  f144 := Tryz.func69.trans (congrArg some (by kernel_rfl))
  f217 := Tryz.func167.trans (congrArg some (by kernel_rfl))
  f219 := Tryz.func149.trans (congrArg some (by kernel_rfl))
  f224 := Tryz.func174.trans (congrArg some (by kernel_rfl))
  f225 := Tryz.func173.trans (congrArg some (by kernel_rfl))
  f266 := Tryz.func181.trans (congrArg some (by kernel_rfl))
  f267 := Tryz.func175.trans (congrArg some (by kernel_rfl))
  f314 := Tryz.func185.trans (congrArg some (by kernel_rfl))
  t3 := Tryz.underlying3
  a3 := Tryz.isAgg3
  z3 := Tryz.sizeOf3
  v3 := Tryz.zeroValue3
  t4 := Tryz.underlying4
  a4 := Tryz.isAgg4
  z4 := Tryz.sizeOf4
  v4 := Tryz.zeroValue4
  t5 := Tryz.underlying5
  a5 := Tryz.isAgg5
  z5 := Tryz.sizeOf5
  v5 := Tryz.zeroValue5
  t9 := Tryz.underlying9
  a9 := Tryz.isAgg9
  z9 := Tryz.sizeOf9
  v9 := Tryz.zeroValue9
  t46 := Tryz.underlying113
  a46 := Tryz.isAgg113
  z46 := Tryz.sizeOf113
  v46 := Tryz.zeroValue113
  t51 := Tryz.underlying155
  a51 := Tryz.isAgg155
  z51 := Tryz.sizeOf155
  v51 := Tryz.zeroValue155
  t146 := Tryz.underlying156
  a146 := Tryz.isAgg156
  z146 := Tryz.sizeOf156
  v146 := Tryz.zeroValue156
  g1 := by kernel_rfl }
open Go.RowKit Go.Lib in
theorem Tryz.strings_Contains (s sub : ByteArray) (m : Int) (w : World) (hs : s.size < 4294967281) (hm : w.cell? ⟨3, 0, none⟩ = some (.int .i64 m)) :
    Calls Tryz.prog 69 #[.string s, .string sub] w fun e w' => e = .returned (.bool (Lib.contains s.data.toList sub.data.toList)) ∧ w' = w := Any.strings_Contains Tryz.lays144 s sub m w hs hm
def Tryz.lays148_ren : Go.Shelf.Ren := ⟨fun | 148 => 169 | 222 => 183 | 223 => 184 | 269 => 188 | n => n, fun | 9 => 9 | 3 => 3 | 4 => 4 | 5 => 5 | 146 => 156 | 51 => 155 | 46 => 113 | n => n, fun | n => n⟩
theorem Tryz.lays148 : Go.Proofs.Lays.n148 Tryz.prog Tryz.lays148_ren := {
  mixed := by kernel_rfl
  f148 := Tryz.func169.trans (congrArg some (by kernel_rfl))
  f222 := Tryz.func183.trans (congrArg some (by kernel_rfl))
  f223 := Tryz.func184.trans (congrArg some (by kernel_rfl))
  f269 := Tryz.func188.trans (congrArg some (by kernel_rfl))
  t3 := Tryz.underlying3
  a3 := Tryz.isAgg3
  z3 := Tryz.sizeOf3
  v3 := Tryz.zeroValue3
  t4 := Tryz.underlying4
  a4 := Tryz.isAgg4
  z4 := Tryz.sizeOf4
  v4 := Tryz.zeroValue4
  t5 := Tryz.underlying5
  a5 := Tryz.isAgg5
  z5 := Tryz.sizeOf5
  v5 := Tryz.zeroValue5
  t9 := Tryz.underlying9
  a9 := Tryz.isAgg9
  z9 := Tryz.sizeOf9
  v9 := Tryz.zeroValue9
  t46 := Tryz.underlying113
  a46 := Tryz.isAgg113
  z46 := Tryz.sizeOf113
  v46 := Tryz.zeroValue113
  t51 := Tryz.underlying155
  a51 := Tryz.isAgg155
  z51 := Tryz.sizeOf155
  v51 := Tryz.zeroValue155
  t146 := Tryz.underlying156
  a146 := Tryz.isAgg156
  z146 := Tryz.sizeOf156
  v146 := Tryz.zeroValue156 }
open Go.RowKit Go.Lib in
theorem Tryz.strings_LastIndex (s sub : ByteArray) (hs : s.size < 4611686018427387904) (w : World) :
    Calls Tryz.prog 169 #[.string s, .string sub] w fun e w' => e = .returned (.int .i64 (Lib.lastIndex s.data.toList sub.data.toList)) ∧ w' = w := Any.strings_LastIndex Tryz.lays148 s sub hs w
def Tryz.lays99_ren : Go.Shelf.Ren := ⟨fun | 99 => 63 | 206 => 116 | n => n, fun | 9 => 9 | 4 => 4 | 3 => 3 | n => n, fun | n => n⟩
theorem Tryz.lays99 : Go.Proofs.Lays.n99 Tryz.prog Tryz.lays99_ren := {
  mixed := by kernel_rfl
  f99 := Tryz.func63.trans (congrArg some (by kernel_rfl))
  f206 := Tryz.func116.trans (congrArg some (by kernel_rfl))
  t3 := Tryz.underlying3
  a3 := Tryz.isAgg3
  z3 := Tryz.sizeOf3
  v3 := Tryz.zeroValue3
  t4 := Tryz.underlying4
  a4 := Tryz.isAgg4
  z4 := Tryz.sizeOf4
  v4 := Tryz.zeroValue4
  t9 := Tryz.underlying9
  a9 := Tryz.isAgg9
  z9 := Tryz.sizeOf9
  v9 := Tryz.zeroValue9 }
open Go.RowKit Go.Lib in
theorem Tryz.strings_HasPrefix (s p : ByteArray) (w : World) :
    Calls Tryz.prog 63 #[.string s, .string p] w fun e w' => e = .returned (.bool (Lib.hasPrefix s.data.toList p.data.toList)) ∧ w' = w := Any.strings_HasPrefix Tryz.lays99 s p w
def Tryz.lays100_ren : Go.Shelf.Ren := ⟨fun | 100 => 68 | 207 => 119 | n => n, fun | 9 => 9 | 4 => 4 | 3 => 3 | n => n, fun | n => n⟩
theorem Tryz.lays100 : Go.Proofs.Lays.n100 Tryz.prog Tryz.lays100_ren := {
  mixed := by kernel_rfl
  f100 := Tryz.func68.trans (congrArg some (by kernel_rfl))
  f207 := Tryz.func119.trans (congrArg some (by kernel_rfl))
  t3 := Tryz.underlying3
  a3 := Tryz.isAgg3
  z3 := Tryz.sizeOf3
  v3 := Tryz.zeroValue3
  t4 := Tryz.underlying4
  a4 := Tryz.isAgg4
  z4 := Tryz.sizeOf4
  v4 := Tryz.zeroValue4
  t9 := Tryz.underlying9
  a9 := Tryz.isAgg9
  z9 := Tryz.sizeOf9
  v9 := Tryz.zeroValue9 }
open Go.RowKit Go.Lib in
theorem Tryz.strings_HasSuffix (s p : ByteArray) (w : World) (hs : s.size ≤ 9223372036854775807) :
    Calls Tryz.prog 68 #[.string s, .string p] w fun e w' => e = .returned (.bool (Lib.hasSuffix s.data.toList p.data.toList)) ∧ w' = w := Any.strings_HasSuffix Tryz.lays100 s p w hs
def Tryz.lays146_ren : Go.Shelf.Ren := ⟨fun | 146 => 51 | 221 => 96 | 268 => 134 | 138 => 135 | 143 => 120 | 195 => 164 | 197 => 165 | 218 => 166 | 219 => 149 | 260 => 180 | 217 => 167 | 225 => 173 | 224 => 174 | 267 => 175 | 266 => 181 | 314 => 185 | n => n, fun | 9 => 9 | 31 => 55 | 3 => 3 | 4 => 4 | 0 => 0 | 105 => 207 | 21 => 21 | 5 => 5 | 46 => 113 | 119 => 136 | 139 => 222 | 138 => 221 | 146 => 156 | 51 => 155 | n => n, fun | 1 => 3 | 3 => 6 | 4 => 7 | n => n⟩
theorem Tryz.lays146 : Go.Proofs.Lays.n146 Tryz.prog Tryz.lays146_ren := {
  mixed := by kernel_rfl
  f138 := Tryz.func135.trans (congrArg some (by kernel_rfl))
  f143 := Tryz.func120.trans (congrArg some (by kernel_rfl))
  f146 := Tryz.func51.trans (congrArg some (by kernel_rfl))
  f195 := Tryz.func164.trans (congrArg some (by kernel_rfl))
  f197 := Tryz.func165.trans (congrArg some (by kernel_rfl))
  f217 := Tryz.func167.trans (congrArg some (by kernel_rfl))
  f218 := Tryz.func166.trans (congrArg some (by kernel_rfl))
  f219 := Tryz.func149.trans (congrArg some (by kernel_rfl))
  f221 := Tryz.func96.trans (congrArg some (by kernel_rfl))
  f224 := Tryz.func174.trans (congrArg some (by kernel_rfl))
  f225 := Tryz.func173.trans (congrArg some (by kernel_rfl))
  f260 := Tryz.func180.trans (congrArg some (by kernel_rfl))
  f266 := Tryz.func181.trans (congrArg some (by kernel_rfl))
  f267 := Tryz.func175.trans (congrArg some (by kernel_rfl))
  f268 := Tryz.func134.trans (congrArg some (by kernel_rfl))
  f314 := Tryz.func185.trans (congrArg some (by kernel_rfl))
  t0 := Tryz.underlying0
  a0 := Tryz.isAgg0
  z0 := Tryz.sizeOf0
  v0 := Tryz.zeroValue0
  t3 := Tryz.underlying3
  a3 := Tryz.isAgg3
  z3 := Tryz.sizeOf3
  v3 := Tryz.zeroValue3
  t4 := Tryz.underlying4
  a4 := Tryz.isAgg4
  z4 := Tryz.sizeOf4
  v4 := Tryz.zeroValue4
  t5 := Tryz.underlying5
  a5 := Tryz.isAgg5
  z5 := Tryz.sizeOf5
  v5 := Tryz.zeroValue5
  t9 := Tryz.underlying9
  a9 := Tryz.isAgg9
  z9 := Tryz.sizeOf9
  v9 := Tryz.zeroValue9
  t21 := Tryz.underlying21
  a21 := Tryz.isAgg21
  z21 := Tryz.sizeOf21
  v21 := Tryz.zeroValue21
  t31 := Tryz.underlying55
  a31 := Tryz.isAgg55
  z31 := Tryz.sizeOf55
  v31 := Tryz.zeroValue55
  t46 := Tryz.underlying113
  a46 := Tryz.isAgg113
  z46 := Tryz.sizeOf113
  v46 := Tryz.zeroValue113
  t51 := Tryz.underlying155
  a51 := Tryz.isAgg155
  z51 := Tryz.sizeOf155
  v51 := Tryz.zeroValue155
  t105 := Tryz.underlying207
  a105 := Tryz.isAgg207
  z105 := Tryz.sizeOf207
  v105 := Tryz.zeroValue207
  t119 := Tryz.underlying136
  a119 := Tryz.isAgg136
  z119 := Tryz.sizeOf136
  t138 := Tryz.underlying221
  a138 := Tryz.isAgg221
  z138 := Tryz.sizeOf221
  v138 := Tryz.zeroValue221
  t139 := Tryz.underlying222
  a139 := Tryz.isAgg222
  z139 := Tryz.sizeOf222
  v139 := Tryz.zeroValue222
  t146 := Tryz.underlying156
  a146 := Tryz.isAgg156
  z146 := Tryz.sizeOf156
  v146 := Tryz.zeroValue156
  g1 := by kernel_rfl
  g3 := by kernel_rfl
  g4 := by kernel_rfl }
open Go.RowKit Go.Lib in
theorem Tryz.strings_Split (s sep : ByteArray) (m : Int) (w : World) (hs : s.size < 4294967281) (hm : w.cell? ⟨3, 0, none⟩ = some (.int .i64 m)) (h1 : 1 ≤ sep.size) :
    Calls Tryz.prog 51 #[.string s, .string sep] w fun e w' =>
      e = .returned (.slice (some ⟨w.heap.size, 0, none⟩) (Lib.countB s sep + 1) (Lib.countB s sep + 1)) ∧ w' = w.alloc (.cells ((Lib.splitB sep 0 (Lib.countB s sep) s).map Value.string).toArray 9) := Any.strings_Split Tryz.lays146 (by kernel_rfl) s sep m w hs hm h1
def Tryz.laysM157_ren : Go.Shelf.Ren := ⟨fun | 157 => 46 | 229 => 88 | 199 => 89 | 261 => 130 | 311 => 151 | 312 => 152 | n => n, fun | 9 => 9 | 31 => 55 | 3 => 3 | 5 => 5 | 4 => 4 | 119 => 136 | 0 => 0 | 40 => 138 | 152 => 165 | 21 => 21 | 154 => 167 | 51 => 155 | 141 => 169 | 196 => 190 | 193 => 187 | 198 => 193 | 49 => 191 | 194 => 188 | 201 => 196 | 226 => 214 | 46 => 113 | 227 => 215 | n => n, fun | 0 => 0 | 6 => 1 | n => n⟩
theorem Tryz.laysM157 : Go.Proofs.LaysM.n157 Tryz.prog Tryz.laysM157_ren := {
  mixed := by kernel_rfl
  f157 := Tryz.func46.trans (congrArg some (by kernel_rfl))
  f199 := Tryz.func89.trans (congrArg some (by kernel_rfl))
  f229 := Tryz.func88.trans (congrArg some (by kernel_rfl))
  f261 := Tryz.func130.trans (congrArg some (by kernel_rfl))
  f311 := Tryz.func151.trans (congrArg some (by kernel_rfl))
  f312 := Tryz.func152.trans (congrArg some (by kernel_rfl))
  t0 := Tryz.underlying0
  a0 := Tryz.isAgg0
  z0 := Tryz.sizeOf0
  v0 := Tryz.zeroValue0
  t3 := Tryz.underlying3
  a3 := Tryz.isAgg3
  z3 := Tryz.sizeOf3
  v3 := Tryz.zeroValue3
  t4 := Tryz.underlying4
  a4 := Tryz.isAgg4
  z4 := Tryz.sizeOf4
  v4 := Tryz.zeroValue4
  t5 := Tryz.underlying5
  a5 := Tryz.isAgg5
  z5 := Tryz.sizeOf5
  v5 := Tryz.zeroValue5
  t9 := Tryz.underlying9
  a9 := Tryz.isAgg9
  z9 := Tryz.sizeOf9
  v9 := Tryz.zeroValue9
  t21 := Tryz.underlying21
  a21 := Tryz.isAgg21
  z21 := Tryz.sizeOf21
  v21 := Tryz.zeroValue21
  t31 := Tryz.underlying55
  a31 := Tryz.isAgg55
  z31 := Tryz.sizeOf55
  v31 := Tryz.zeroValue55
  t40 := Tryz.underlying138
  a40 := Tryz.isAgg138
  z40 := Tryz.sizeOf138
  v40 := Tryz.zeroValue138
  t46 := Tryz.underlying113
  a46 := Tryz.isAgg113
  z46 := Tryz.sizeOf113
  v46 := Tryz.zeroValue113
  t49 := Tryz.underlying191
  a49 := Tryz.isAgg191
  z49 := Tryz.sizeOf191
  v49 := Tryz.zeroValue191
  t51 := Tryz.underlying155
  a51 := Tryz.isAgg155
  z51 := Tryz.sizeOf155
  v51 := Tryz.zeroValue155
  t119 := Tryz.underlying136
  a119 := Tryz.isAgg136
  z119 := Tryz.sizeOf136
  t141 := Tryz.underlying169
  a141 := Tryz.isAgg169
  z141 := Tryz.sizeOf169
  v141 := Tryz.zeroValue169
  t152 := Tryz.underlying165
  a152 := Tryz.isAgg165
  z152 := Tryz.sizeOf165
  v152 := Tryz.zeroValue165
  t154 := Tryz.underlying167
  a154 := Tryz.isAgg167
  z154 := Tryz.sizeOf167
  v154 := Tryz.zeroValue167
  t193 := Tryz.underlying187
  a193 := Tryz.isAgg187
  z193 := Tryz.sizeOf187
  v193 := Tryz.zeroValue187
  t194 := Tryz.underlying188
  a194 := Tryz.isAgg188
  z194 := Tryz.sizeOf188
  v194 := Tryz.zeroValue188
  t196 := Tryz.underlying190
  a196 := Tryz.isAgg190
  z196 := Tryz.sizeOf190
  v196 := Tryz.zeroValue190
  t198 := Tryz.underlying193
  a198 := Tryz.isAgg193
  z198 := Tryz.sizeOf193
  v198 := Tryz.zeroValue193
  t201 := Tryz.underlying196
  a201 := Tryz.isAgg196
  z201 := Tryz.sizeOf196
  v201 := Tryz.zeroValue196
  t226 := Tryz.underlying214
  a226 := Tryz.isAgg214
  z226 := Tryz.sizeOf214
  v226 := Tryz.zeroValue214
  t227 := Tryz.underlying215
  a227 := Tryz.isAgg215
  z227 := Tryz.sizeOf215
  v227 := Tryz.zeroValue215
  g0 := by kernel_rfl
  g6 := by kernel_rfl
  i0 := by kernel_rfl
  i3 := by kernel_rfl
  i4 := by kernel_rfl
  i5 := by kernel_rfl
  i9 := by kernel_rfl
  i21 := by kernel_rfl
  i31 := by kernel_rfl
  i40 := by kernel_rfl
  i46 := by kernel_rfl
  i49 := by kernel_rfl
  i51 := by kernel_rfl
  i141 := by kernel_rfl
  i152 := by kernel_rfl
  i154 := by kernel_rfl
  i193 := by kernel_rfl
  i194 := by kernel_rfl
  i196 := by kernel_rfl
  i198 := by kernel_rfl
  i201 := by kernel_rfl
  i226 := by kernel_rfl
  i227 := by kernel_rfl
  m0 := by kernel_rfl
  m6 := by kernel_rfl }
open Go.RowKit Go.Lib in
theorem Tryz.strings_Fields_laid (s : ByteArray) (w : World) (hs : s.size < 4294967281) (hascii : ∀ (j : Nat) b, s.data.toList[j]? = some b → b.toNat < 128) (htab : Lib.TabIs Tryz.prog w "strings.asciiSpace" .u8 Lib.asciiSpaceTab) :
    Calls Tryz.prog 46 #[.string s] w fun e w' =>
      e = .returned (.slice (some ⟨w.heap.size, 0, none⟩) (Lib.fields s.data.toList).length (Lib.fields s.data.toList).length) ∧ w' = w.alloc (.cells ((Lib.fields s.data.toList).map fun l => Value.string ⟨l.toArray⟩).toArray 9) := Any.strings_Fields_laid Tryz.laysM157 s w hs hascii htab
def Tryz.lays150_ren : Go.Shelf.Ren := ⟨fun | 150 => 94 | 153 => 132 | 152 => 154 | 226 => 155 | 227 => 156 | 228 => 157 | 137 => 137 | 119 => 177 | 224 => 174 | 225 => 173 | 217 => 167 | 266 => 181 | n => n, fun | 9 => 9 | 4 => 4 | 3 => 3 | 5 => 5 | 21 => 21 | 117 => 201 | 116 => 200 | 0 => 0 | 46 => 113 | 124 => 205 | n => n, fun | n => n⟩
theorem Tryz.lays150 : Go.Proofs.Lays.n150 Tryz.prog Tryz.lays150_ren := {
  mixed := by kernel_rfl
  f119 := Tryz.func177.trans (congrArg some (by kernel_rfl))
  f137 := Tryz.func137.trans (congrArg some (by kernel_rfl))
  f150 := Tryz.func94.trans (congrArg some (by kernel_rfl))
  f152 := Tryz.func154.trans (congrArg some (by kernel_rfl))
  f153 := Tryz.func132.trans (congrArg some (by kernel_rfl))
  f217 := Tryz.func167.trans (congrArg some (by kernel_rfl))
  f224 := Tryz.func174.trans (congrArg some (by kernel_rfl))
  f225 := Tryz.func173.trans (congrArg some (by kernel_rfl))
  f226 := Tryz.func155.trans (congrArg some (by kernel_rfl))
  f227 := Tryz.func156.trans (congrArg some (by kernel_rfl))
  f228 := Tryz.func157.trans (congrArg some (by kernel_rfl))
  f266 := Tryz.func181.trans (congrArg some (by kernel_rfl))
  t0 := Tryz.underlying0
  a0 := Tryz.isAgg0
  z0 := Tryz.sizeOf0
  v0 := Tryz.zeroValue0
  t3 := Tryz.underlying3
  a3 := Tryz.isAgg3
  z3 := Tryz.sizeOf3
  v3 := Tryz.zeroValue3
  t4 := Tryz.underlying4
  a4 := Tryz.isAgg4
  z4 := Tryz.sizeOf4
  v4 := Tryz.zeroValue4
  t5 := Tryz.underlying5
  a5 := Tryz.isAgg5
  z5 := Tryz.sizeOf5
  v5 := Tryz.zeroValue5
  t9 := Tryz.underlying9
  a9 := Tryz.isAgg9
  z9 := Tryz.sizeOf9
  v9 := Tryz.zeroValue9
  t21 := Tryz.underlying21
  a21 := Tryz.isAgg21
  z21 := Tryz.sizeOf21
  v21 := Tryz.zeroValue21
  t46 := Tryz.underlying113
  a46 := Tryz.isAgg113
  z46 := Tryz.sizeOf113
  v46 := Tryz.zeroValue113
  t116 := Tryz.underlying200
  a116 := Tryz.isAgg200
  z116 := Tryz.sizeOf200
  t117 := Tryz.underlying201
  a117 := Tryz.isAgg201
  z117 := Tryz.sizeOf201
  v117 := Tryz.zeroValue201
  t124 := Tryz.underlying205
  a124 := Tryz.isAgg205
  z124 := Tryz.sizeOf205
  v124 := Tryz.zeroValue205 }
open Go.RowKit Go.Lib in
theorem Tryz.strings_ContainsAny_laid (s chars : ByteArray) (w : World) (hs : s.size < 4294967281) (hcs : chars.size < 4294967281) (has : ∀ (j : Nat) b, s.data.toList[j]? = some b → b.toNat < 128) (hac : ∀ (j : Nat) b, chars.data.toList[j]? = some b → b.toNat < 128) :
    Calls Tryz.prog 94 #[.string s, .string chars] w fun e w' => e = .returned (.bool (Lib.containsAny s.data.toList chars.data.toList)) ∧ Below w.heap.size w w' := Any.strings_ContainsAny_laid Tryz.lays150 (by kernel_rfl) s chars w hs hcs has hac
def Tryz.lays105_ren : Go.Shelf.Ren := ⟨fun | 105 => 35 | 212 => 62 | 99 => 63 | 165 => 64 | 166 => 65 | 170 => 66 | 169 => 67 | 263 => 114 | 264 => 115 | 206 => 116 | 240 => 117 | 241 => 118 | 276 => 147 | 277 => 148 | n => n, fun | 9 => 9 | 3 => 3 | 4 => 4 | 20 => 20 | 0 => 0 | 46 => 113 | 109 => 114 | 5 => 5 | 72 => 120 | 76 => 124 | 51 => 155 | 146 => 156 | 53 => 150 | 148 => 158 | 70 => 117 | 37 => 118 | 75 => 123 | 127 => 160 | 164 => 181 | 80 => 126 | n => n, fun | n => n⟩
theorem Tryz.lays105 : Go.Proofs.Lays.n105 Tryz.prog Tryz.lays105_ren := {
  mixed := by kernel_rfl
  f99 := Tryz.func63.trans (congrArg some (by kernel_rfl))
  f105 := Tryz.func35.trans (congrArg some (by kernel_rfl))
  f165 := Tryz.func64.trans (congrArg some (by kernel_rfl))
  f166 := Tryz.func65.trans (congrArg some (by kernel_rfl))
  f169 := Tryz.func67.trans (congrArg some (by kernel_rfl))
  f170 := Tryz.func66.trans (congrArg some (by kernel_rfl))
  f206 := Tryz.func116.trans (congrArg some (by kernel_rfl))
  f212 := Tryz.func62.trans (congrArg some (by kernel_rfl))
  f240 := Tryz.func117.trans (congrArg some (by kernel_rfl))
  f241 := Tryz.func118.trans (congrArg some (by kernel_rfl))
  f263 := Tryz.func114.trans (congrArg some (by kernel_rfl))
  f264 := Tryz.func115.trans (congrArg some (by kernel_rfl))
  f276 := Tryz.func147.trans (congrArg some (by kernel_rfl))
  f277 := Tryz.func148.trans (congrArg some (by kernel_rfl))
  t0 := Tryz.underlying0
  a0 := Tryz.isAgg0
  z0 := Tryz.sizeOf0
  v0 := Tryz.zeroValue0
  t3 := Tryz.underlying3
  a3 := Tryz.isAgg3
  z3 := Tryz.sizeOf3
  v3 := Tryz.zeroValue3
  t4 := Tryz.underlying4
  a4 := Tryz.isAgg4
  z4 := Tryz.sizeOf4
  v4 := Tryz.zeroValue4
  t5 := Tryz.underlying5
  a5 := Tryz.isAgg5
  z5 := Tryz.sizeOf5
  v5 := Tryz.zeroValue5
  t9 := Tryz.underlying9
  a9 := Tryz.isAgg9
  z9 := Tryz.sizeOf9
  v9 := Tryz.zeroValue9
  t20 := Tryz.underlying20
  a20 := Tryz.isAgg20
  z20 := Tryz.sizeOf20
  v20 := Tryz.zeroValue20
  t37 := Tryz.underlying118
  a37 := Tryz.isAgg118
  z37 := Tryz.sizeOf118
  v37 := Tryz.zeroValue118
  t46 := Tryz.underlying113
  a46 := Tryz.isAgg113
  z46 := Tryz.sizeOf113
  v46 := Tryz.zeroValue113
  t51 := Tryz.underlying155
  a51 := Tryz.isAgg155
  z51 := Tryz.sizeOf155
  v51 := Tryz.zeroValue155
  t53 := Tryz.underlying150
  a53 := Tryz.isAgg150
  z53 := Tryz.sizeOf150
  v53 := Tryz.zeroValue150
  t70 := Tryz.underlying117
  a70 := Tryz.isAgg117
  z70 := Tryz.sizeOf117
  v70 := Tryz.zeroValue117
  t72 := Tryz.underlying120
  a72 := Tryz.isAgg120
  z72 := Tryz.sizeOf120
  v72 := Tryz.zeroValue120
  t75 := Tryz.underlying123
  a75 := Tryz.isAgg123
  z75 := Tryz.sizeOf123
  v75 := Tryz.zeroValue123
  t76 := Tryz.underlying124
  a76 := Tryz.isAgg124
  z76 := Tryz.sizeOf124
  v76 := Tryz.zeroValue124
  t109 := Tryz.underlying114
  a109 := Tryz.isAgg114
  z109 := Tryz.sizeOf114
  v109 := Tryz.zeroValue114
  t127 := Tryz.underlying160
  a127 := Tryz.isAgg160
  z127 := Tryz.sizeOf160
  v127 := Tryz.zeroValue160
  t146 := Tryz.underlying156
  a146 := Tryz.isAgg156
  z146 := Tryz.sizeOf156
  v146 := Tryz.zeroValue156
  t148 := Tryz.underlying158
  a148 := Tryz.isAgg158
  z148 := Tryz.sizeOf158
  v148 := Tryz.zeroValue158
  t164 := Tryz.underlying181
  a164 := Tryz.isAgg181
  z164 := Tryz.sizeOf181
  v164 := Tryz.zeroValue181 }
theorem Tryz.Builder_Extra_105 : Builder.Extra Tryz.prog Tryz.lays105_ren := {
  sizeBuilder := by kernel_rfl
  liesBuilder := by kernel_rfl
  t5 := Tryz.underlying5
  a5 := Tryz.isAgg5
  z5 := Tryz.sizeOf5
  v5 := Tryz.zeroValue5
  infoByte := by kernel_rfl
  cellsByte := by kernel_rfl
  sizeByte := by kernel_rfl
  neB5 := by decide }
open Go.RowKit Go.Lib in
theorem Tryz.strings_Repeat (s : ByteArray) (c : Nat) (w : World) (hc : c ≤ 9223372036854775807) (hlen : s.size * c ≤ 140737488355328) :
    Calls Tryz.prog 35 #[.string s, .int .i64 c] w fun e w' => e = .returned (.string ⟨(Lib.repeatL s.data.toList c).toArray⟩) ∧ Below w.heap.size w w' := Any.strings_Repeat Tryz.lays105 Tryz.Builder_Extra_105 s c w hc hlen
def Tryz.lays109_ren : Go.Shelf.Ren := ⟨fun | 109 => 170 | n => n, fun | 31 => 55 | 9 => 9 | 3 => 3 | 0 => 0 | 4 => 4 | n => n, fun | n => n⟩
theorem Tryz.lays109 : Go.Proofs.Lays.n109 Tryz.prog Tryz.lays109_ren := {
  mixed := by kernel_rfl
  f109 := Tryz.func170.trans (congrArg some (by kernel_rfl))
  t0 := Tryz.underlying0
  a0 := Tryz.isAgg0
  z0 := Tryz.sizeOf0
  v0 := Tryz.zeroValue0
  t3 := Tryz.underlying3
  a3 := Tryz.isAgg3
  z3 := Tryz.sizeOf3
  v3 := Tryz.zeroValue3
  t4 := Tryz.underlying4
  a4 := Tryz.isAgg4
  z4 := Tryz.sizeOf4
  v4 := Tryz.zeroValue4
  t9 := Tryz.underlying9
  a9 := Tryz.isAgg9
  z9 := Tryz.sizeOf9
  v9 := Tryz.zeroValue9
  t31 := Tryz.underlying55
  a31 := Tryz.isAgg55
  z31 := Tryz.sizeOf55
  v31 := Tryz.zeroValue55 }
open Go.Lib in
theorem Tryz.slices_Index_string (b off n c : Nat) (zs : List ByteArray) (x : ByteArray) (w : World) (hz : n ≤ zs.length) (hbig : n ≤ 9223372036854775807) (hc : ∀ j, j < zs.length → w.cell? ⟨b, off + j, none⟩ = some (.string (zs.getD j ByteArray.empty))) :
    Calls Tryz.prog 170 #[.slice (some ⟨b, off, none⟩) n c, .string x] w fun e w' => e = .returned (.int .i64 (Lib.idxOfS (zs.take n) x)) ∧ w' = w := Any.slices_Index_string Tryz.lays109 b off n c zs x w hz hbig hc
end Go.Proofs

/- strconv.Atoi at every string: one contract with its three ends. -/
namespace Go.Proofs.YtndillbimibecaaGreatDoor
set_option linter.unusedVariables false
open Go.RowKit

end Go.Proofs.YtndillbimibecaaGreatDoor

/- strings.Builder written, and strings.Join: the library's contracts at this program. -/
namespace Go.Proofs.YtndillbimibecaaGreatDoor
set_option linter.unusedVariables false
open Go.RowKit

/-- strings.Join of words in memory. -/
theorem join_c (l : List ByteArray) (sep : ByteArray) (v : Value) (F : Nat → Prop) (w : World) (hv : Sli strR w F l v) (hF : ∀ b, F b → b < w.heap.size) (hlen : (Lib.join (l.map (·.data.toList)) sep.data.toList).length ≤ 140737488355328) (hN : l.length ≤ 140737488355328) :
    Calls Tryz.prog 45 #[v, .string sep] w fun e w' => e = .returned (.string ⟨(Lib.join (l.map (·.data.toList)) sep.data.toList).toArray⟩) ∧ Below w.heap.size w w' := by
  obtain ⟨A, c, rfl, h1, h2, h3⟩ := hv
  by_cases h0 : 0 < l.length
  · obtain ⟨b, off, cs, rfl, hb, hl, hc⟩ := h3 h0
    refine Any.strings_Join Tryz.lays156 Tryz.Builder_Extra_156 b off c l sep w (fun j x hx => ?_) (hF b hb) hN h1 hlen
    have h4 : (cs.drop (j * 1)).take 1 = [.string x] := hl.2 j x hx
    refine hc j _ ?_
    have h5 : ((cs.drop (j * 1)).take 1)[0]? = some (.string x) := by rw [h4]; rfl
    rw [List.getElem?_take, if_pos (by decide), List.getElem?_drop] at h5
    simpa using h5
  · have : l = [] := List.length_eq_zero_iff.1 (by omega)
    subst this
    exact (Any.strings_Join_none Tryz.lays156 Tryz.Builder_Extra_156 A c sep w).mono fun e w' ⟨he, hw⟩ => ⟨he, hw ▸ Below.refl _ _⟩
end Go.Proofs.YtndillbimibecaaGreatDoor

/- strings.Builder written, with what stands beside it kept: the library's contracts at this program. -/
namespace Go.Proofs.YtndillbimibecaaGreatDoor
set_option linter.unusedVariables false
open Go.RowKit

/-- A builder of the call's own, whose block is B, that holds the bytes l. -/
def BldK (w : World) (B : Nat) (l : List UInt8) : Prop := Lib.IsBuilderF 120 5 B B (Lib.byteCells l) w
theorem BldK.new (w : World) : BldK (w.alloc (.cells #[.pointer none, .slice none 0 0] 120)) w.heap.size [] := Lib.IsBuilderF.of (Lib.fresh_isBuilder _ _ w)
theorem BldK.lt {w : World} {B : Nat} {l : List UInt8} (h : BldK w B l) : B < w.heap.size := by
  rcases h with ⟨_, v, hb, _⟩ | ⟨_, v, hb, _⟩
  · exact (Array.getElem?_eq_some_iff.1 hb).1
  · exact (Array.getElem?_eq_some_iff.1 hb).1
theorem BldK.keep {w w' : World} {B : Nat} {l : List UInt8} (h : BldK w B l) (hk : ∀ b, B ≤ b → b < w.heap.size → w'.heap[b]? = w.heap[b]?) : BldK w' B l := by
  have one : ∀ p, Lib.BuilderAtF 120 5 B B p (Lib.byteCells l) w → Lib.BuilderAtF 120 5 B B p (Lib.byteCells l) w' := by
    rintro p ⟨hB, v, hb, ho, hne⟩
    refine ⟨hB, v, (hk B (Nat.le_refl _) (Array.getElem?_eq_some_iff.1 hb).1).trans hb, ⟨ho.1, ?_⟩, hne⟩
    rcases ho.2 with hn | ⟨g, cap, cur, fz, rfl, hg0, hg, rest⟩
    · exact .inl hn
    · exact .inr ⟨g, cap, cur, fz, rfl, hg0, (hk g hg0 (Array.getElem?_eq_some_iff.1 hg).1).trans hg, rest⟩
  rcases h with h | h
  · exact .inl (one _ h)
  · exact .inr (one _ h)
theorem BldK.below {w w' : World} {B : Nat} {l : List UInt8} (h : BldK w B l) (hb : Below w.heap.size w w') : BldK w' B l := h.keep fun b _ hlt => hb.block b hlt
theorem BldK.alloc {w : World} {B : Nat} {l : List UInt8} (h : BldK w B l) (o : Obj) : BldK (w.alloc o) B l := h.keep fun b _ hlt => Below.heap_alloc w o b hlt
theorem BldK.drew {w : World} {B : Nat} {l : List UInt8} (h : BldK w B l) : BldK w.drew B l := h
theorem writeK_c (B : Nat) (l : List UInt8) (s : ByteArray) (w : World) (h : BldK w B l) (hlen : l.length + s.size ≤ 140737488355328) :
    Calls Tryz.prog 65 #[.pointer (some ⟨B, 0, none⟩), .string s] w fun e w' => e = .returned (.tuple #[.int .i64 s.size, .nilIface]) ∧ (BldK w' B (l ++ s.data.toList) ∧ Below B w w' ∧ Lib.OthersKept 5 (some B) w w') := by
  refine (Any.Builder_WriteString_k { Tryz.lays156 with } Tryz.Builder_Extra_156 B B (Lib.byteCells l) s w h (by rw [Lib.byteCells_length]; exact hlen) (Nat.le_of_lt h.lt)).mono ?_
  rintro e w' ⟨he, h1, h2, h3⟩
  refine ⟨he, .inr ?_, h2, h3⟩
  rw [Lib.strCells_eq, ← Lib.byteCells_append] at h1
  exact h1
theorem textK_c (B : Nat) (l : List UInt8) (w : World) (h : BldK w B l) :
    Calls Tryz.prog 67 #[.pointer (some ⟨B, 0, none⟩)] w fun e w' => e = .returned (.string ⟨l.toArray⟩) ∧ Below B w w' :=
  (Any.Builder_String_any_k { Tryz.lays156 with } Tryz.Builder_Extra_156 B B l w h (Nat.le_of_lt h.lt)).mono fun _ _ h => ⟨h.1, h.2.2.1⟩
/-- A block of the call's own that is no row of bytes stands behind a write. -/
theorem keptK {w w' : World} {B X : Nat} {cs : Array Value} {T : TypeId} (h : Lib.OthersKept 5 (some B) w w') (hX : w.heap[X]? = some (.cells cs T (0, 0))) (hne : X ≠ B) (hT : T ≠ 5) : w'.heap[X]? = some (.cells cs T (0, 0)) :=
  h X _ hX (fun e => hne (by injection e)) (fun c fz e => hT (by injection e))
end Go.Proofs.YtndillbimibecaaGreatDoor

/- What a law's walk ends with. No law in sight. -/
namespace Go.Proofs.YtndillbimibecaaGreatDoor
set_option linter.unusedVariables false
open Go.RowKit

theorem strNew (w : World) (A : Option Addr) (l : List Int) (c : Nat) (hr : Rs w 0 w.heap.size 1 intc A l) (hl : l.length ≤ 17592186044416) (ho : ∀ x ∈ l, okI x) :
    Str (w.alloc (.cells #[.slice A l.length c, .int .i64 0] 25)) w.heap.size 0 :=
  ⟨A, c, l, heap_alloc_new w _, Int.le_refl _, hr.alloc (Nat.le_refl _) _, hl, ho⟩
theorem gEnd {w w1 : World} {o : Obj} (h : (w.alloc o).grownBy w1 (some w.heap.size)) : Below w.heap.size w w1 :=
  ⟨h.os, h.tape, h.output, by have := h.size; simp at this; omega, fun i hi => (h.block i (by simp; omega) (by simp; omega)).trans (Below.heap_alloc w _ i hi)⟩
end Go.Proofs.YtndillbimibecaaGreatDoor

/- The reference's small words on strings. -/
namespace Go.Proofs.YtndillbimibecaaGreatDoor
set_option linter.unusedVariables false
open Go.RowKit

theorem trim_c (s cs : ByteArray) (w : World) (hs : s.size ≤ 140737488355328) (hcs : cs.size ≤ 1000) (ha : (cs.data.toList.all fun b => decide (b.toNat < 128)) = true) :
    Calls Tryz.prog 133 #[.string s, .string cs] w fun e w' => e = .returned (.string ⟨(Lib.trimS s.data.toList cs.data.toList).toArray⟩) ∧ Below w.heap.size w w' :=
  Any.strings_Trim_laid Tryz.lays160 (by kernel_rfl) s cs w (by omega) (by omega) (ascii_of_all ha)

theorem dropWhile_nil {p : UInt8 → Bool} {l : List UInt8} : l.dropWhile p = [] ↔ ∀ x ∈ l, p x = true := by
  induction l with
  | nil => simp
  | cons y l ih =>
    cases h : p y with
    | true => simp [h, ih]
    | false => simp [h]

theorem trimS_nil (l cs : List UInt8) : Lib.trimS l cs = [] ↔ l.all (cs.contains ·) = true := by
  unfold Lib.trimS Lib.trimLeftS Lib.trimRightS
  constructor
  · intro h
    have h1 : ∀ x ∈ (l.reverse.dropWhile (cs.contains ·)), cs.contains x = true := by
      have := dropWhile_nil.1 h
      simpa using this
    cases hd : l.reverse.dropWhile (cs.contains ·) with
    | nil =>
      have := dropWhile_nil.1 hd
      rw [List.all_eq_true]
      intro x hx
      exact this x (by simpa using hx)
    | cons y t =>
      have h2 := h1 y (by rw [hd]; simp)
      have h3 := List.head_dropWhile_not (p := (cs.contains ·)) (l := l.reverse) (by rw [hd]; simp)
      simp only [hd, List.head_cons] at h3
      rw [h3] at h2; cases h2
  · intro h
    rw [List.all_eq_true] at h
    have : l.reverse.dropWhile (cs.contains ·) = [] := dropWhile_nil.2 (fun x hx => h x (by simpa using hx))
    rw [this]; rfl

theorem toList_mk (l : List UInt8) : (⟨l.toArray⟩ : ByteArray).toList = l := by rw [ByteArray.toList_eq]

set_option maxHeartbeats 400000 in
theorem made_c (s cs : ByteArray) (w : World) (hs : s.size ≤ 140737488355328) (hcs : cs.size ≤ 1000) (ha : (cs.data.toList.all fun b => decide (b.toNat < 128)) = true) :
    Calls Tryz.prog 95 #[.string s, .string cs] w fun e w' => e = .returned (.bool (allB (cs.data.toList.contains ·) s)) ∧ Below w.heap.size w w' := by
  cases h : allB (cs.data.toList.contains ·) s with
  | true =>
    have h2 : (⟨(Lib.trimS s.data.toList cs.data.toList).toArray⟩ : ByteArray) = ⟨#[]⟩ := by rw [(trimS_nil _ _).2 h]
    have H := Lib.hid h2
    clear h2 h
    go_enter Tryz.func95, Tryz.ntmps95
    go_wp2_with fail
    refine (trim_c s cs _ hs hcs ha).mono ?_
    rintro e w' ⟨rfl, hb⟩
    rw [H.out]
    go_wp2
    go_ret
    exact ⟨rfl, hb⟩
  | false =>
    have h2 : (⟨(Lib.trimS s.data.toList cs.data.toList).toArray⟩ : ByteArray).toList.isEmpty = false := by
      rw [toList_mk]
      cases he : Lib.trimS s.data.toList cs.data.toList with
      | nil => rw [(trimS_nil _ _).1 he |> (show _ → allB (cs.data.toList.contains ·) s = true from id)] at h; cases h
      | cons y t => rfl
    have H := Lib.hid h2
    clear h2 h
    go_enter Tryz.func95, Tryz.ntmps95
    go_wp2_with fail
    refine (trim_c s cs _ hs hcs ha).mono ?_
    rintro e w' ⟨rfl, hb⟩
    generalize (⟨(Lib.trimS s.data.toList cs.data.toList).toArray⟩ : ByteArray) = t at H ⊢
    have h2 := H.out
    go_wp2
    go_ret
    exact ⟨rfl, hb⟩

set_option maxHeartbeats 400000 in
theorem long_c (s : ByteArray) (lo hi : Int) (w : World) (hs : s.size ≤ 140737488355328) :
    Calls Tryz.prog 20 #[.string s, .int .i64 lo, .int .i64 hi] w fun e w' => e = .returned (.bool (decide (lo ≤ s.size) && decide ((s.size : Int) ≤ hi))) ∧ w = w' := by
  by_cases h1 : lo ≤ (s.size : Int)
  all_goals
    go_enter Tryz.func20, Tryz.ntmps20
    go_wp2
    go_ret
    exact ⟨ret_bool (by first | (simp [h1]; done) | (simp; omega)), rfl⟩
end Go.Proofs.YtndillbimibecaaGreatDoor

/- The shelf contracts that these proofs use, laid at this translation. -/
namespace Go.Proofs
open Go.Shelf

end Go.Proofs

/- Small laws on strings and bytes. No program in sight. -/
namespace Go.Proofs.YtndillbimibecaaGreatDoor
set_option linter.unusedVariables false
open Go.RowKit

theorem below_of_regrown {w w' : World} (h : ∃ p : Regrown, w' = Sort.grow (redrawn w p.d) p.os) : Below w.heap.size w w' := by
  obtain ⟨p, rfl⟩ := h
  exact below_regrown w p.d p.os
end Go.Proofs.YtndillbimibecaaGreatDoor

/- The program's codes. -/
namespace Go.Proofs.YtndillbimibecaaGreatDoor
set_option linter.unusedVariables false
open Go.RowKit Go.Sort

end Go.Proofs.YtndillbimibecaaGreatDoor

/- A text cut at a byte, in plain words. No program in sight. -/
namespace Go.Proofs.YtndillbimibecaaGreatDoor
set_option linter.unusedVariables false
open Go.RowKit

/-- Where a byte stands first; the length where it does not stand. -/
def cutI (s : ByteArray) (c : UInt8) : Nat := s.data.toList.findIdx (· == c)
def cutF (s : ByteArray) (c : UInt8) : Bool := decide (cutI s c < s.size)
def cutA (s : ByteArray) (c : UInt8) : ByteArray := s.extract 0 (cutI s c)
def cutB (s : ByteArray) (c : UInt8) : ByteArray := s.extract (cutI s c + 1) s.size
theorem cutI_le (s : ByteArray) (c : UInt8) : cutI s c ≤ s.size := by
  have := List.findIdx_le_length (p := (· == c)) (xs := s.data.toList)
  simpa [cutI] using this
theorem cutA_size (s : ByteArray) (c : UInt8) : (cutA s c).size ≤ s.size := by unfold cutA; rw [ByteArray.size_extract]; omega
theorem cutB_size (s : ByteArray) (c : UInt8) : (cutB s c).size ≤ s.size := by unfold cutB; rw [ByteArray.size_extract]; omega
theorem idxB_no {s : ByteArray} {c : UInt8} (h : ¬ cutI s c < s.size) : Lib.indexByte s.data.toList c = -1 := by
  by_cases h1 : Lib.indexByte s.data.toList c = -1
  · exact h1
  · exfalso
    have hg := Lib.indexByte_ge s.data.toList c
    obtain ⟨o, ho⟩ := Int.eq_ofNat_of_zero_le (show 0 ≤ Lib.indexByte s.data.toList c by omega)
    obtain ⟨h2, _⟩ := Lib.indexByte_some ho
    obtain ⟨hlt, h3⟩ := List.getElem?_eq_some_iff.1 h2
    exact h (by
      have h4 : cutI s c < s.data.toList.length := List.findIdx_lt_length_of_exists ⟨c, by rw [← h3]; exact List.getElem_mem hlt, by simp⟩
      simpa using h4)
theorem idxB_yes {s : ByteArray} {c : UInt8} (h : cutI s c < s.size) : Lib.indexByte s.data.toList c = (cutI s c : Int) := by
  have hl : cutI s c < s.data.toList.length := by simpa using h
  have hg := Lib.indexByte_ge s.data.toList c
  have hc : s.data.toList[cutI s c] = c := by have := List.findIdx_getElem (p := (· == c)) (w := hl); exact eq_of_beq this
  have hne : Lib.indexByte s.data.toList c ≠ -1 := fun e => Lib.indexByte_none e (cutI s c) (by rw [List.getElem?_eq_getElem hl, hc])
  obtain ⟨o, ho⟩ := Int.eq_ofNat_of_zero_le (show 0 ≤ Lib.indexByte s.data.toList c by omega)
  obtain ⟨h2, h3⟩ := Lib.indexByte_some ho
  obtain ⟨hlt, h4⟩ := List.getElem?_eq_some_iff.1 h2
  rcases Nat.lt_trichotomy o (cutI s c) with h5 | h5 | h5
  · have := List.not_of_lt_findIdx (p := (· == c)) (xs := s.data.toList) h5
    simp [h4] at this
  · rw [ho, h5]
  · exact absurd (by rw [List.getElem?_eq_getElem hl, hc]) (h3 _ h5)
theorem extract_list' (s : ByteArray) (a b : Nat) : (s.extract a b).data.toList = (s.data.toList.drop a).take (b - a) := by simp
theorem ba_ext {a b : ByteArray} (h : a.data.toList = b.data.toList) : a = b := by
  rcases a with ⟨⟨a⟩⟩; rcases b with ⟨⟨b⟩⟩; simp at h; rw [h]
end Go.Proofs.YtndillbimibecaaGreatDoor

/- strings.Cut at one byte, for every string. -/
namespace Go.Proofs.YtndillbimibecaaGreatDoor
set_option linter.unusedVariables false
open Go.RowKit

set_option maxHeartbeats 400000 in
theorem cutL_c (s : ByteArray) (c : UInt8) (w : World) (hs : s.size ≤ 140737488355328) :
    Calls Tryz.prog 182 #[.string s, .string ⟨#[c]⟩] w fun e w' => e = .returned (.tuple #[.string (cutA s c), .string (cutB s c), .bool (cutF s c)]) ∧ ∃ n, w' = w.drewN n := by
  by_cases h : cutI s c < s.size
  · have HI := Lib.hid (idxB_yes h)
    obtain ⟨i, hi⟩ : ∃ i, cutI s c = i := ⟨_, rfl⟩
    have HV := Lib.hid (show cutA s c = s.extract 0 i ∧ cutB s c = s.extract (i + 1) s.size ∧ cutF s c = true by unfold cutA cutB cutF; rw [← hi]; exact ⟨rfl, rfl, decide_eq_true h⟩)
    rw [hi] at h HI
    clear hi
    have p0 : (0 : Int) ≤ (i : Int) := by omega
    have p1 : (i : Int) ≤ (s.size : Int) := by omega
    have p2 : (i : Int) + 1 ≤ (s.size : Int) := by omega
    have p3 : (0 : Int) ≤ (i : Int) + 1 := by omega
    have p4 : ((i : Int) + 1).toNat = i + 1 := by omega
    have p5 : IntKind.i64.wrap ((i : Int) + 1) = (i : Int) + 1 := IntWalk.i64_in _ (by omega)
    have p6 : i ≤ s.size := by omega
    have p7 : i + 1 ≤ s.size := by omega
    go_enter Tryz.func182, Tryz.ntmps182
    go_wp2_with fail
    refine (Tryz.stringslite_Index_one s c _).mono ?_
    rintro e w' ⟨rfl, rfl⟩
    rw [HI.out]
    go_wp2
    go_quiet (fail)
    go_wp2
    refine bodyPost_ret (v := .tuple #[.string (cutA s c), .string (cutB s c), .bool (cutF s c)]) ?_ rfl ⟨rfl, _, rfl⟩
    rw [HV.out.1, HV.out.2.1, HV.out.2.2]
    simp [results, go_sem]
  · have HI := Lib.hid (idxB_no h)
    have hi : cutI s c = s.size := by have := cutI_le s c; omega
    have HV := Lib.hid (show cutA s c = s ∧ cutB s c = ⟨#[]⟩ ∧ cutF s c = false by
      unfold cutA cutB cutF; rw [hi]
      exact ⟨ba_ext (by simp), ba_ext (by simp), by simp⟩)
    clear hi h
    go_enter Tryz.func182, Tryz.ntmps182
    go_wp2_with fail
    refine (Tryz.stringslite_Index_one s c _).mono ?_
    rintro e w' ⟨rfl, rfl⟩
    rw [HI.out]
    go_wp2
    refine bodyPost_ret (v := .tuple #[.string (cutA s c), .string (cutB s c), .bool (cutF s c)]) ?_ rfl ⟨rfl, 0, rfl⟩
    rw [HV.out.1, HV.out.2.1, HV.out.2.2]
    simp [results, go_sem]
set_option maxHeartbeats 400000 in
theorem cut_c (s : ByteArray) (c : UInt8) (w : World) (hs : s.size ≤ 140737488355328) :
    Calls Tryz.prog 168 #[.string s, .string ⟨#[c]⟩] w fun e w' => e = .returned (.tuple #[.string (cutA s c), .string (cutB s c), .bool (cutF s c)]) ∧ ∃ n, w' = w.drewN n := by
  go_enter Tryz.func168, Tryz.ntmps168
  go_wp2_with fail
  refine (cutL_c s c _ hs).mono ?_
  rintro e w' ⟨rfl, ⟨n, rfl⟩⟩
  go_wp2
  exact bodyPost_ret (v := .tuple #[.string (cutA s c), .string (cutB s c), .bool (cutF s c)]) (by simp [results, go_sem]) rfl ⟨rfl, _, rfl⟩
end Go.Proofs.YtndillbimibecaaGreatDoor

/- Numerals read by the program and by the reference. -/
namespace Go.Proofs.YtndillbimibecaaGreatDoor
set_option linter.unusedVariables false
open Go.RowKit Go.Sort

/-- The table of powers of ten lies where it was laid. -/
def PowLaid (w : World) : Prop := Lib.TabIs Tryz.prog w "internal/strconv.uint64pow10" .u64 Lib.pow10Tab
theorem below_grow {w w' : World} {k : Nat} {os : Array Obj} (h : w' = grow (w.drewN k) os) : Below w.heap.size w w' := by
  subst h
  exact below_regrown w (w.drawn + k) os
theorem itoa_c (n : Int) (w : World) (hn : okI n) (hp : PowLaid w) : Calls Tryz.prog 16 #[.int .i64 n] w fun e w' => e = .returned (.string ⟨(Lib.itoa n).toArray⟩) ∧ Below w.heap.size w w' :=
  (Any.strconv_Itoa Tryz.laysM171 n hn.1 hn.2 w hp).mono fun _ _ ⟨he, k, os, hw⟩ => ⟨he, below_grow hw⟩

end Go.Proofs.YtndillbimibecaaGreatDoor

/- The generator's changed texts and frames. -/
namespace Go.Proofs.YtndillbimibecaaGreatDoor
set_option linter.unusedVariables false
open Go.RowKit Go.Sort

end Go.Proofs.YtndillbimibecaaGreatDoor

/- The generator's numbers of scenes and setups. -/
namespace Go.Proofs.YtndillbimibecaaGreatDoor
set_option linter.unusedVariables false
open Go.RowKit Go.Sort

theorem oneOf {l : List ByteArray} {x : ByteArray} {n : Nat} (h : (l.all fun x => decide (x.size ≤ n)) = true) (hx : x ∈ l) : x.size ≤ n := by
  rw [List.all_eq_true] at h; simpa using h x hx
end Go.Proofs.YtndillbimibecaaGreatDoor

/- Digests: the program's and the reference's. -/
namespace Go.Proofs.YtndillbimibecaaGreatDoor
set_option linter.unusedVariables false
open Go.RowKit Go.Sort

end Go.Proofs.YtndillbimibecaaGreatDoor

/- The program's names of files, and copies checked. -/
namespace Go.Proofs.YtndillbimibecaaGreatDoor
set_option linter.unusedVariables false
open Go.RowKit

theorem idx_set (set : List UInt8) (c : UInt8) : (set.contains c = true → 0 ≤ Lib.indexByte set c) ∧ (set.contains c = false → Lib.indexByte set c < 0) := by
  have hg := Lib.indexByte_ge set c
  constructor
  · intro h
    by_cases h1 : Lib.indexByte set c = -1
    · have hm : c ∈ set := by simpa using h
      obtain ⟨k, hk, e⟩ := List.mem_iff_getElem.1 hm
      exact absurd (by rw [List.getElem?_eq_getElem hk, e]) (Lib.indexByte_none h1 k)
    · omega
  · intro h
    by_cases h1 : 0 ≤ Lib.indexByte set c
    · obtain ⟨o, ho⟩ := Int.eq_ofNat_of_zero_le h1
      obtain ⟨h2, _⟩ := Lib.indexByte_some ho
      have : c ∈ set := List.mem_of_getElem? h2
      simp at h; exact absurd this h
    · omega
/-- strings.IndexByte: below 0 just where the byte is none of the set. -/
theorem idxB_c (set : ByteArray) (c : UInt8) (w : World) : Calls Tryz.prog 137 #[.string set, .int .u8 (c.toNat : Int)] w fun e w' => e = .returned (.int .i64 (Lib.indexByte set.data.toList c)) ∧ w = w' := by
  refine (Tryz.strings_IndexByte set (c.toNat : Int) w).mono ?_
  rintro e w' ⟨he, hw⟩
  refine ⟨?_, hw.symm⟩
  rw [he]
  have : ((c.toNat : Int)).toNat.toUInt8 = c := by simp
  rw [this]

end Go.Proofs.YtndillbimibecaaGreatDoor

/- Lists of copies checked, and manifests made. -/
namespace Go.Proofs.YtndillbimibecaaGreatDoor
set_option linter.unusedVariables false
open Go.RowKit

end Go.Proofs.YtndillbimibecaaGreatDoor

/- Slices compared and looked through; the reference's names of files. -/
namespace Go.Proofs.YtndillbimibecaaGreatDoor
set_option linter.unusedVariables false
open Go.RowKit

theorem strAt {w : World} {F : Nat → Prop} {l : List ByteArray} {A : Option Addr} {n c : Nat} (h : Sli strR w F l (.slice A n c)) (k : Nat) (hk : k < l.length) : ∃ b off, A = some ⟨b, off, none⟩ ∧ F b ∧ w.cell? ⟨b, off + k, none⟩ = some (.string l[k]) := by
  obtain ⟨b, off, a, e, hb, hr, hc⟩ := h.at_ k hk
  have ha : a = [.string l[k]] := hr
  subst ha
  refine ⟨b, off, e, hb, ?_⟩
  have h := hc 0 _ rfl
  rw [show off + k * strR.n + 0 = off + k from by show off + k * 1 + 0 = _; omega] at h
  exact h
theorem eq_take_next {α : Type} {a b : List α} {k : Nat} (h1 : k < a.length) (h2 : k < b.length) (h : a.take k = b.take k) (e : a[k] = b[k]) : a.take (k + 1) = b.take (k + 1) := by
  rw [List.take_succ_eq_append_getElem h1, List.take_succ_eq_append_getElem h2, h, e]
theorem ne_at {α : Type} {a b : List α} {k : Nat} (h1 : k < a.length) (h2 : k < b.length) (e : ¬ a[k] = b[k]) : ¬ a = b := by
  intro h; subst h; exact e rfl

set_option maxRecDepth 100000 in
set_option maxHeartbeats 800000 in
theorem eqStr_c (l1 l2 : List ByteArray) (v1 v2 : Value) (F : Nat → Prop) (w : World) (h1 : Sli strR w F l1 v1) (h2 : Sli strR w F l2 v2) (hF : ∀ b, F b → b < w.heap.size) :
    Calls Tryz.prog 29 #[v1, v2] w fun e w' => e = .returned (.bool (decide (l1 = l2))) ∧ Below w.heap.size w w' := by
  obtain ⟨A1, c1, rfl, hlc1, hc1⟩ := h1.form
  obtain ⟨A2, c2, rfl, hlc2, hc2⟩ := h2.form
  have H1 := Lib.hid h1; clear h1
  have H2 := Lib.hid h2; clear h2
  have HF := Lib.hid hF; clear hF
  by_cases hne : l1.length = l2.length
  · obtain ⟨n, hn1⟩ : ∃ n, l1.length = n := ⟨_, rfl⟩
    have hn2 : l2.length = n := by omega
    rw [hn1] at H1 hlc1 ⊢
    rw [hn2] at H2 ⊢
    go_enter Tryz.func29, Tryz.ntmps29
    go_wp2
    go_loopw [13] (fun i wr => ∃ k : Nat, k ≤ n ∧ i = .int .i64 k ∧ Below w.heap.size w wr ∧ Hid (l1.take k = l2.take k)) (fun i _ => n - (intOf i).toNat)
    case atStart => exact ⟨0, Nat.zero_le _, rfl, Below.refl _ _, rfl⟩
    case round =>
      obtain ⟨k, hk, rfl, hb, HT⟩ := hrel
      by_cases hlt : k < n
      · obtain ⟨b, off, rfl, hfb, c0⟩ := strAt (H1.out.below hb HF.out) k (by omega)
        obtain ⟨b2, off2, rfl, hfb2, d0⟩ := strAt (H2.out.below hb HF.out) k (by omega)
        by_cases he : l1[k]'(by omega) = l2[k]'(by omega)
        · have HN := Lib.hid (eq_take_next (by omega) (by omega) HT.out he)
          rw [he] at c0
          clear he
          generalize l2[k]'(by omega) = x at *
          go_wp2
          go_quiet (fail)
          go_wp2
          go_roundw
          case rel => exact ⟨k + 1, by omega, intNum, by first | exact hb | exact hb.drew | exact below_drewN hb _, HN.out⟩
          case measure => simp [intOf]; omega
        · have HN := Lib.hid (ne_at (by omega) (by omega) he)
          generalize l1[k]'(by omega) = x at *
          generalize l2[k]'(by omega) = y at *
          have hq : (x.toList == y.toList) = false := by rw [beqS]; simpa using he
          go_wp2
          go_quiet (fail)
          go_wp2
          go_ret
          exact ⟨ret_bool (by symm; simpa using HN.out), by first | exact hb | exact hb.drew | exact below_drewN hb _⟩
      · have e : k = n := by omega
        have HN := Lib.hid (show l1 = l2 by have := HT.out; rwa [List.take_of_length_le (by omega), List.take_of_length_le (by omega)] at this)
        go_wp2
        go_ret
        exact ⟨ret_bool (by symm; simpa using HN.out), hb⟩
  · have HN := Lib.hid (show ¬ l1 = l2 by intro h; exact hne (by rw [h]))
    have hz : ¬ (l1.length : Int) = l2.length := by omega
    go_enter Tryz.func29, Tryz.ntmps29
    go_wp2
    go_ret
    exact ⟨ret_bool (by symm; simpa using HN.out), Below.refl _ _⟩

instance : DecidableEq Copied := fun a b => decidable_of_iff (a.eqB b = true) Copied.eqB_iff
end Go.Proofs.YtndillbimibecaaGreatDoor

/- Lists of whole numbers compared: the library's, walked. -/
namespace Go.Proofs.YtndillbimibecaaGreatDoor
set_option linter.unusedVariables false
open Go.RowKit

theorem intAt {w : World} {F : Nat → Prop} {l : List Int} {A : Option Addr} {n c : Nat} (h : Sli intR w F l (.slice A n c)) (k : Nat) (hk : k < l.length) : ∃ b off, A = some ⟨b, off, none⟩ ∧ F b ∧ w.cell? ⟨b, off + k, none⟩ = some (.int .i64 l[k]) := by
  obtain ⟨b, off, a, e, hb, hr, hc⟩ := h.at_ k hk
  have ha : a = [.int .i64 l[k]] := hr
  subst ha
  refine ⟨b, off, e, hb, ?_⟩
  have h := hc 0 _ rfl
  rw [show off + k * intR.n + 0 = off + k from by show off + k * 1 + 0 = _; omega] at h
  exact h
set_option maxRecDepth 100000 in
set_option maxHeartbeats 800000 in
theorem eqInt_c (l1 l2 : List Int) (v1 v2 : Value) (F : Nat → Prop) (w : World) (h1 : Sli intR w F l1 v1) (h2 : Sli intR w F l2 v2) (hF : ∀ b, F b → b < w.heap.size) :
    Calls Tryz.prog 11 #[v1, v2] w fun e w' => e = .returned (.bool (decide (l1 = l2))) ∧ Below w.heap.size w w' := by
  obtain ⟨A1, c1, rfl, hlc1, hc1⟩ := h1.form
  obtain ⟨A2, c2, rfl, hlc2, hc2⟩ := h2.form
  have H1 := Lib.hid h1; clear h1
  have H2 := Lib.hid h2; clear h2
  have HF := Lib.hid hF; clear hF
  by_cases hne : l1.length = l2.length
  · obtain ⟨n, hn1⟩ : ∃ n, l1.length = n := ⟨_, rfl⟩
    have hn2 : l2.length = n := by omega
    rw [hn1] at H1 hlc1 ⊢
    rw [hn2] at H2 ⊢
    go_enter Tryz.func11, Tryz.ntmps11
    go_wp2
    go_loopw [13] (fun i wr => ∃ k : Nat, k ≤ n ∧ i = .int .i64 k ∧ Below w.heap.size w wr ∧ Hid (l1.take k = l2.take k)) (fun i _ => n - (intOf i).toNat)
    case atStart => exact ⟨0, Nat.zero_le _, rfl, Below.refl _ _, rfl⟩
    case round =>
      obtain ⟨k, hk, rfl, hb, HT⟩ := hrel
      by_cases hlt : k < n
      · obtain ⟨b, off, rfl, hfb, c0⟩ := intAt (H1.out.below hb HF.out) k (by omega)
        obtain ⟨b2, off2, rfl, hfb2, d0⟩ := intAt (H2.out.below hb HF.out) k (by omega)
        by_cases he : l1[k]'(by omega) = l2[k]'(by omega)
        · have HN := Lib.hid (eq_take_next (by omega) (by omega) HT.out he)
          rw [he] at c0
          clear he
          generalize l2[k]'(by omega) = x at *
          have hq : (x != x) = false := by simp
          go_wp2
          go_quiet (fail)
          go_wp2
          go_roundw
          case rel => exact ⟨k + 1, by omega, intNum, by first | exact hb | exact hb.drew | exact below_drewN hb _, HN.out⟩
          case measure => simp [intOf]; omega
        · have HN := Lib.hid (ne_at (by omega) (by omega) he)
          generalize l1[k]'(by omega) = x at *
          generalize l2[k]'(by omega) = y at *
          have hq : (x != y) = true := bne_iff_ne.2 he
          clear he
          go_wp2
          go_quiet (fail)
          go_wp2
          go_ret
          exact ⟨ret_bool (by symm; simpa using HN.out), by first | exact hb | exact hb.drew | exact below_drewN hb _⟩
      · have e : k = n := by omega
        have HN := Lib.hid (show l1 = l2 by have := HT.out; rwa [List.take_of_length_le (by omega), List.take_of_length_le (by omega)] at this)
        go_wp2
        go_ret
        exact ⟨ret_bool (by symm; simpa using HN.out), hb⟩
  · have HN := Lib.hid (show ¬ l1 = l2 by intro h; exact hne (by rw [h]))
    have hz : ¬ (l1.length : Int) = l2.length := by omega
    go_enter Tryz.func11, Tryz.ntmps11
    go_wp2
    go_ret
    exact ⟨ret_bool (by symm; simpa using HN.out), Below.refl _ _⟩
end Go.Proofs.YtndillbimibecaaGreatDoor

/- What the library has laid, kept beside a stream; Atoi and Itoa there. -/
namespace Go.Proofs.YtndillbimibecaaGreatDoor
set_option linter.unusedVariables false
open Go.RowKit Go.Sort

theorem pow_block {w w' : World} (h : PowLaid w) (hk : w'.heap[2]? = w.heap[2]?) : PowLaid w' := by
  unfold PowLaid Lib.TabIs World.var? at *
  rw [show Tryz.prog.globalNamed "internal/strconv.uint64pow10" = some 2 by kernel_rfl] at *
  simp only [Option.bind_some] at *
  rw [hk]; exact h
theorem pow_lt {w : World} (h : PowLaid w) : 2 < w.heap.size := by
  unfold PowLaid Lib.TabIs World.var? at h
  rw [show Tryz.prog.globalNamed "internal/strconv.uint64pow10" = some 2 by kernel_rfl] at h
  simp only [Option.bind_some] at h
  rcases Nat.lt_or_ge 2 w.heap.size with h' | h'
  · exact h'
  · simp [Array.getElem?_eq_none h'] at h
section
variable {w w' : World} {sb : Nat}
end
theorem itoa_sz (n : Int) (h : okI n) : (⟨(Lib.itoa n).toArray⟩ : ByteArray).size ≤ 21 := by
  have := Lib.itoa_length_le n h.1 h.2
  show (Lib.itoa n).toArray.size ≤ 21
  simpa using this
end Go.Proofs.YtndillbimibecaaGreatDoor

/- The number of a scene, and a setup, in plain words. -/
namespace Go.Proofs.YtndillbimibecaaGreatDoor
set_option linter.unusedVariables false
open Go.RowKit

def digB (c : UInt8) : Bool := decide (48 ≤ c.toNat) && decide (c.toNat ≤ 57)
def capB (c : UInt8) : Bool := decide (65 ≤ c.toNat) && decide (c.toNat ≤ 90)
def numK (s : ByteArray) : Nat := (s.data.toList.takeWhile digB).length
def numB (s : ByteArray) : Bool :=
  (s.data.toList.drop (numK s)).all capB && decide (s.size - numK s ≤ 5) && !Lib.hasSuffix (s.data.toList.drop (numK s)) [65]
    && (if s.data.toList.take (numK s) = [48] then decide (numK s < s.size) else decide (1 ≤ numK s) && decide (numK s ≤ 3) && decide (s.data.toList.head? ≠ some 48))

theorem takeWhile_len {p : UInt8 → Bool} {l : List UInt8} {k : Nat} (h : ∀ x ∈ l.take k, p x = true) (hk : k ≤ l.length) (he : ∀ hlt : k < l.length, p l[k] = false) : (l.takeWhile p).length = k := by
  induction l generalizing k with
  | nil => simp at hk; simp [hk]
  | cons y l ih =>
    cases k with
    | zero => have := he (by simp); simp at this; simp [this]
    | succ k =>
      have h0 : p y = true := h y (by simp)
      have := ih (k := k) (fun x hx => h x (by simp [hx])) (by simpa using hk) (fun hlt => he (Nat.succ_lt_succ hlt))
      simp [h0, this]
theorem numK_eq {s : ByteArray} {k : Nat} (h : ∀ x ∈ s.data.toList.take k, digB x = true) (hk : k ≤ s.size) (he : ∀ hlt : k < s.size, digB s[k] = false) : numK s = k :=
  takeWhile_len h (by simpa using hk) (fun hlt => he (by simpa using hlt))
theorem extract_list (s : ByteArray) (a b : Nat) : (s.extract a b).data.toList = (s.data.toList.drop a).take (b - a) := by
  simp
theorem extract_end (s : ByteArray) (k : Nat) : (s.extract k s.size).data.toList = s.data.toList.drop k := by
  rw [extract_list, List.take_of_length_le]
  simp

theorem numB_size {s : ByteArray} (h : numB s = true) : s.size ≤ 8 := by
  simp only [numB, Bool.and_eq_true, decide_eq_true_eq] at h
  obtain ⟨⟨⟨_, h1⟩, _⟩, h2⟩ := h
  split at h2
  · rename_i h3
    have := congrArg List.length h3
    simp at this; omega
  · simp only [Bool.and_eq_true, decide_eq_true_eq] at h2; omega

end Go.Proofs.YtndillbimibecaaGreatDoor

/- Plain texts, in plain words: joined words against no blanks beside blanks. No program in sight. -/
namespace Go.Proofs.YtndillbimibecaaGreatDoor
set_option linter.unusedVariables false
open Go.RowKit

/-- The words of a text: what stands between blanks. -/
def wordsA : List UInt8 → List UInt8 → List (List UInt8)
  | [], cur => if cur = [] then [] else [cur]
  | c :: l, cur => if c = 32 then (if cur = [] then wordsA l [] else cur :: wordsA l []) else wordsA l (cur ++ [c])
def joinW : List (List UInt8) → List UInt8
  | [] => []
  | [w] => w
  | w :: v :: r => w ++ 32 :: joinW (v :: r)
/-- No blank behind a blank, none at the end. -/
def okA : Bool → List UInt8 → Bool
  | prev, [] => !prev
  | prev, c :: l => if c = 32 then (if prev then false else okA true l) else okA false l
theorem joinW_cons (w : List UInt8) (r : List (List UInt8)) : joinW (w :: r) = if r = [] then w else w ++ 32 :: joinW r := by
  cases r with
  | nil => rfl
  | cons v r => rfl
theorem wordsA_ne (l : List UInt8) : ∀ cur, cur ≠ [] → wordsA l cur ≠ [] := by
  induction l with
  | nil => intro cur h; simp [wordsA, h]
  | cons c l ih =>
    intro cur h
    unfold wordsA
    by_cases hc : c = 32
    · rw [if_pos hc, if_neg h]; simp
    · rw [if_neg hc]; exact ih _ (by simp)
theorem join_len (l : List UInt8) : ∀ cur, (joinW (wordsA l cur)).length ≤ cur.length + l.length := by
  induction l with
  | nil => intro cur; by_cases h : cur = [] <;> simp [wordsA, h, joinW]
  | cons c l ih =>
    intro cur
    unfold wordsA
    by_cases hc : c = 32
    · rw [if_pos hc]
      have h1 := ih []
      by_cases h : cur = []
      · rw [if_pos h]; simp at h1 ⊢; omega
      · rw [if_neg h, joinW_cons]
        split
        · simp
        · simp at h1 ⊢; omega
    · rw [if_neg hc]
      have := ih (cur ++ [c])
      simp at this ⊢; omega
theorem join_ok (l : List UInt8) : (∀ cur, cur ≠ [] → (joinW (wordsA l cur) = cur ++ l ↔ okA false l = true)) ∧ ((wordsA l [] ≠ [] ∧ joinW (wordsA l []) = l) ↔ okA true l = true) := by
  induction l with
  | nil =>
    refine ⟨fun cur h => ?_, ?_⟩
    · simp [wordsA, h, joinW, okA]
    · simp [wordsA, okA]
  | cons c l ih =>
    obtain ⟨ihA, ihB⟩ := ih
    refine ⟨fun cur h => ?_, ?_⟩
    · unfold wordsA okA
      by_cases hc : c = 32
      · rw [if_pos hc, if_neg h, if_pos hc, joinW_cons]
        simp only [Bool.false_eq_true, if_false]
        rw [← ihB]
        by_cases hw : wordsA l [] = []
        · rw [if_pos hw]; simp [hw]
        · rw [if_neg hw, hc]
          simp [hw]
      · rw [if_neg hc, if_neg hc, ← ihA (cur ++ [c]) (by simp)]; simp
    · unfold wordsA okA
      by_cases hc : c = 32
      · rw [if_pos hc, if_pos rfl, if_pos hc]
        simp only [if_true, Bool.false_eq_true, iff_false, not_and]
        intro _ h
        have := join_len l []
        rw [h] at this
        simp at this
        omega
      · rw [if_neg hc, if_neg hc, List.nil_append, ← ihA [c] (by simp)]
        constructor
        · rintro ⟨_, h⟩; exact h
        · intro h; exact ⟨wordsA_ne l _ (by simp), h⟩
def plainL (l : List UInt8) : Bool := decide (l = []) || okA true l
/-- What the reference asks. -/
theorem plain_join (l : List UInt8) : joinW (wordsA l []) = l ↔ plainL l = true := by
  unfold plainL
  cases l with
  | nil => simp [wordsA, joinW]
  | cons c l =>
    have h := (join_ok (c :: l)).2
    simp only [Bool.or_eq_true, decide_eq_true_eq, reduceCtorEq, false_or]
    rw [← h]
    constructor
    · intro he
      refine ⟨fun hw => ?_, he⟩
      rw [hw] at he; cases he
    · exact fun h => h.2
def dblB : List UInt8 → Bool
  | [] => false
  | [_] => false
  | a :: b :: l => (a == 32 && b == 32) || dblB (b :: l)
def sufB : List UInt8 → Bool
  | [] => false
  | [a] => a == 32
  | _ :: b :: l => sufB (b :: l)
/-- What the program asks. -/
theorem okA_prog (l : List UInt8) : ∀ prev c, okA prev (c :: l) = (!dblB (c :: l) && !(prev && c == 32) && !sufB (c :: l)) := by
  induction l with
  | nil =>
    intro prev c
    by_cases hc : c = 32
    · cases prev <;> simp [okA, dblB, sufB, hc]
    · cases prev <;> simp [okA, dblB, sufB, hc]
  | cons d l ih =>
    intro prev c
    by_cases hc : c = 32
    · cases prev
      · rw [okA, if_pos hc]
        simp only [Bool.false_eq_true, if_false]
        rw [ih true d]
        have e : (c == 32) = true := by rw [hc]; rfl
        simp only [dblB, sufB, e, Bool.true_and, Bool.false_and, Bool.not_false, Bool.and_true]
        generalize dblB (d :: l) = x
        generalize sufB (d :: l) = y
        generalize (d == 32) = z
        cases x <;> cases y <;> cases z <;> rfl
      · have e : (c == 32) = true := by rw [hc]; rfl
        simp [okA, hc]
    · rw [okA, if_neg hc, ih false d]
      have e : (c == 32) = false := beq_eq_false_iff_ne.2 hc
      simp only [dblB, sufB, e, Bool.false_and, Bool.and_false, Bool.not_false, Bool.and_true, Bool.false_or]
theorem contains_cons (b : UInt8) (l sub : List UInt8) : Lib.contains (b :: l) sub = (sub.isPrefixOf (b :: l) || Lib.contains l sub) := by
  unfold Lib.contains
  have hg := Lib.index_ge l sub
  rw [Lib.index]
  cases h : sub.isPrefixOf (b :: l) with
  | true => simp
  | false =>
    simp only [Bool.false_eq_true, if_false, Bool.false_or]
    by_cases h1 : Lib.index l sub = -1
    · rw [h1]; rfl
    · rw [if_neg (by simpa using h1), decide_eq_decide]; omega
theorem beqC (a b : UInt8) : (a == b) = (b == a) := by
  rw [show (a == b) = decide (a = b) from rfl, show (b == a) = decide (b = a) from rfl, decide_eq_decide]
  exact ⟨fun h => h.symm, fun h => h.symm⟩
theorem dbl_contains (l : List UInt8) : Lib.contains l [32, 32] = dblB l := by
  induction l with
  | nil => rfl
  | cons a l ih =>
    rw [contains_cons, ih]
    cases l with
    | nil => simp [List.isPrefixOf, dblB]
    | cons b l =>
      simp only [List.isPrefixOf, dblB, Bool.and_true]
      have e1 : ((32 : UInt8) == a) = (a == 32) := beqC 32 a
      have e2 : ((32 : UInt8) == b) = (b == 32) := beqC 32 b
      rw [e1, e2]
theorem suf_has (l : List UInt8) : Lib.hasSuffix l [32] = sufB l := by
  unfold Lib.hasSuffix
  rw [Bool.eq_iff_iff, List.isSuffixOf_iff_suffix]
  induction l with
  | nil => simp [sufB]
  | cons a l ih =>
    rw [List.suffix_cons_iff, ih]
    cases l with
    | nil => simp [sufB]; exact eq_comm
    | cons b l => simp [sufB]
theorem pre_has (l : List UInt8) : Lib.hasPrefix l [32] = decide (l.head? = some 32) := by
  unfold Lib.hasPrefix
  cases l with
  | nil => rfl
  | cons a l =>
    show ((32 : UInt8) == a && List.isPrefixOf [] l) = _
    rw [show List.isPrefixOf ([] : List UInt8) l = true by cases l <;> rfl, Bool.and_true, List.head?_cons]
    rw [show ((32 : UInt8) == a) = decide ((32 : UInt8) = a) from rfl, decide_eq_decide]
    constructor
    · intro h; rw [h]
    · intro h; injection h with h; exact h.symm
/-- The two ways to ask for no blanks beside blanks. -/
theorem plain_prog (l : List UInt8) : plainL l = (!Lib.hasPrefix l [32] && !Lib.hasSuffix l [32] && !Lib.contains l [32, 32]) := by
  rw [dbl_contains, suf_has, pre_has]
  unfold plainL
  cases l with
  | nil => rfl
  | cons c l =>
    rw [okA_prog]
    simp only [reduceCtorEq, decide_false, Bool.false_or, List.head?_cons, Option.some.injEq, Bool.true_and]
    have e : (c == 32) = decide (c = 32) := rfl
    generalize dblB (c :: l) = x
    generalize sufB (c :: l) = y
    by_cases hc : c = 32
    · simp [hc]
    · have e : (c == 32) = false := beq_eq_false_iff_ne.2 hc
      simp only [e, hc, decide_false]; cases x <;> cases y <;> rfl
/-- All bytes from 32 to 126. -/
def prB (c : UInt8) : Bool := decide (32 ≤ c.toNat) && decide (c.toNat ≤ 126)
def plainB (s : ByteArray) : Bool := allB prB s && plainL s.data.toList
end Go.Proofs.YtndillbimibecaaGreatDoor

/- Reading slates, in plain words. No program in sight. -/
namespace Go.Proofs.YtndillbimibecaaGreatDoor
set_option linter.unusedVariables false
open Go.RowKit

theorem numB_bytes {s : ByteArray} (h : numB s = true) : ∀ c ∈ s.data.toList, digB c = true ∨ capB c = true := by
  simp only [numB, Bool.and_eq_true] at h
  obtain ⟨⟨⟨h1, _⟩, _⟩, _⟩ := h
  intro c hc
  rw [← List.take_append_drop (numK s) s.data.toList, List.mem_append] at hc
  rcases hc with hc | hc
  · left
    have ht : s.data.toList.take (numK s) = s.data.toList.takeWhile digB := by
      unfold numK
      conv => lhs; rw [← List.takeWhile_append_dropWhile (p := digB) (l := s.data.toList)]
      rw [List.takeWhile_append_dropWhile, ← List.prefix_iff_eq_take.1 (List.takeWhile_prefix digB)]
    rw [ht] at hc
    exact (List.all_eq_true.1 (List.all_takeWhile (p := digB) (l := s.data.toList))) c hc
  · right; exact (List.all_eq_true.1 h1) c hc
theorem empty_iff (s : ByteArray) : s.toList.isEmpty = true ↔ s = ⟨#[]⟩ := by
  rw [ByteArray.toList_eq]
  constructor
  · intro h; exact ba_ext (by simpa using h)
  · rintro rfl; rfl
end Go.Proofs.YtndillbimibecaaGreatDoor

/- Takes as they lie in memory. No program in sight. -/
namespace Go.Proofs.YtndillbimibecaaGreatDoor
set_option linter.unusedVariables false
open Go.RowKit

end Go.Proofs.YtndillbimibecaaGreatDoor

/- The next number and the next setup in plain words. No program in sight. -/
namespace Go.Proofs.YtndillbimibecaaGreatDoor
set_option linter.unusedVariables false
open Go.RowKit

end Go.Proofs.YtndillbimibecaaGreatDoor

/- How many scenes each set has, in plain words. No program in sight. -/
namespace Go.Proofs.YtndillbimibecaaGreatDoor
set_option linter.unusedVariables false
open Go.RowKit

instance memBA (s : ByteArray) (a : List ByteArray) : Decidable (s ∈ a) := decidable_of_iff (∃ x ∈ a, x = s) (by simp)
end Go.Proofs.YtndillbimibecaaGreatDoor

/- The words of a text, in plain words. No program in sight. -/
namespace Go.Proofs.YtndillbimibecaaGreatDoor
set_option linter.unusedVariables false
open Go.RowKit

end Go.Proofs.YtndillbimibecaaGreatDoor

/- Words divided into lines, in plain words. No program in sight. -/
namespace Go.Proofs.YtndillbimibecaaGreatDoor
set_option linter.unusedVariables false
open Go.RowKit

/-- A long word: pieces of the width, and what is left. -/
def chopA (wd : Nat) (w : List UInt8) : List (List UInt8) :=
  if h : 0 < wd ∧ wd < w.length then w.take wd :: chopA wd (w.drop wd) else []
termination_by w.length
decreasing_by rw [List.length_drop]; omega
def chopZ (wd : Nat) (w : List UInt8) : List UInt8 :=
  if h : 0 < wd ∧ wd < w.length then chopZ wd (w.drop wd) else w
termination_by w.length
decreasing_by rw [List.length_drop]; omega
theorem chopA_more {wd : Nat} {w : List UInt8} (h0 : 0 < wd) (h : wd < w.length) : chopA wd w = w.take wd :: chopA wd (w.drop wd) := by rw [chopA, dif_pos ⟨h0, h⟩]
theorem chopA_done {wd : Nat} {w : List UInt8} (h : ¬ wd < w.length) : chopA wd w = [] := by rw [chopA, dif_neg (fun e => h e.2)]
theorem chopZ_more {wd : Nat} {w : List UInt8} (h0 : 0 < wd) (h : wd < w.length) : chopZ wd w = chopZ wd (w.drop wd) := by rw [chopZ, dif_pos ⟨h0, h⟩]
theorem chopZ_done {wd : Nat} {w : List UInt8} (h : ¬ wd < w.length) : chopZ wd w = w := by rw [chopZ, dif_neg (fun e => h e.2)]
theorem chopZ_pos {wd : Nat} (h0 : 0 < wd) : ∀ (n : Nat) (w : List UInt8), w.length ≤ n → w ≠ [] → chopZ wd w ≠ []
  | 0, w, hl, hw => absurd (List.eq_nil_of_length_eq_zero (by omega)) hw
  | n + 1, w, hl, hw => by
    by_cases h : wd < w.length
    · rw [chopZ_more h0 h]
      refine chopZ_pos h0 n _ (by rw [List.length_drop]; omega) (fun e => ?_)
      have := congrArg List.length e
      rw [List.length_drop] at this
      simp at this
      omega
    · rw [chopZ_done h]; exact hw
theorem chopA_len {wd : Nat} (h0 : 0 < wd) : ∀ (n : Nat) (w : List UInt8), w.length ≤ n → (chopA wd w).length ≤ w.length
  | 0, w, hl => by rw [chopA_done (by omega)]; simp
  | n + 1, w, hl => by
    by_cases h : wd < w.length
    · have ih := chopA_len h0 n (w.drop wd) (by rw [List.length_drop]; omega)
      rw [chopA_more h0 h, List.length_cons]
      rw [List.length_drop] at ih
      omega
    · rw [chopA_done h]; simp
/-- Lines full, and the line at hand. -/
structure Wst where
  out : List (List UInt8)
  cur : List UInt8
def wrapW (wd : Nat) (st : Wst) (w : List UInt8) : Wst :=
  if w = [] then st
  else if ¬ st.cur = [] ∧ st.cur.length + 1 + w.length ≤ wd then ⟨st.out, st.cur ++ 32 :: w⟩
  else ⟨st.out ++ (if st.cur = [] then [] else [st.cur]) ++ chopA wd w, chopZ wd w⟩
def Wst.all (st : Wst) : List (List UInt8) := st.out ++ (if st.cur = [] then [] else [st.cur])
def Wst.ok (st : Wst) : Prop := st.cur = [] → st.out = []
def wrapL (wd : Nat) (ws : List (List UInt8)) : Wst := ws.foldl (wrapW wd) ⟨[], []⟩
def mkB (l : List UInt8) : ByteArray := ⟨l.toArray⟩
def wrapT (s : ByteArray) (wd : Nat) : List ByteArray := (wrapL wd (wordsA s.data.toList [])).all.map mkB
theorem wrapL_snoc (wd : Nat) (ws : List (List UInt8)) (w : List UInt8) : wrapL wd (ws ++ [w]) = wrapW wd (wrapL wd ws) w := by simp [wrapL]
theorem wrapW_ok {wd : Nat} (h0 : 0 < wd) {st : Wst} (h : st.ok) (w : List UInt8) : (wrapW wd st w).ok := by
  unfold wrapW
  split
  · exact h
  · rename_i hw
    split
    · intro e; simp at e
    · intro e
      exact absurd e (chopZ_pos h0 w.length w (Nat.le_refl _) hw)
theorem wrapL_ok {wd : Nat} (h0 : 0 < wd) (ws : List (List UInt8)) : (wrapL wd ws).ok := by
  have key : ∀ (ws : List (List UInt8)) (st : Wst), st.ok → (ws.foldl (wrapW wd) st).ok := by
    intro ws
    induction ws with
    | nil => intro st h; exact h
    | cons w r ih => intro st h; exact ih _ (wrapW_ok h0 h w)
  exact key ws _ (fun _ => rfl)
theorem all_nil {st : Wst} (h : st.ok) : st.all = [] ↔ st.cur = [] := by
  unfold Wst.all
  by_cases hc : st.cur = []
  · rw [h hc, if_pos hc]; simp [hc]
  · rw [if_neg hc]; simp [hc]
/-- A word goes behind the line at hand. -/
theorem all_fits {wd : Nat} {st : Wst} {w : List UInt8} (hw : ¬ w = []) (hc : ¬ st.cur = []) (hf : st.cur.length + 1 + w.length ≤ wd) : (wrapW wd st w).all = st.all.modify (st.all.length - 1) (fun l => l ++ 32 :: w) ∧ st.all[st.all.length - 1]? = some st.cur := by
  unfold wrapW
  rw [if_neg hw, if_pos ⟨hc, hf⟩]
  unfold Wst.all
  rw [if_neg hc, if_neg (by simp)]
  refine ⟨?_, by simp⟩
  have hl : (st.out ++ [st.cur]).length - 1 = st.out.length := by simp
  rw [hl]
  apply List.ext_getElem?
  intro i
  rw [List.getElem?_modify]
  rcases Nat.lt_trichotomy i st.out.length with h | h | h
  · rw [List.getElem?_append_left h, List.getElem?_append_left h]
    cases st.out[i]? <;> simp [show ¬ st.out.length = i by omega]
  · subst h
    simp
  · rw [List.getElem?_eq_none (by simp; omega), List.getElem?_eq_none (by simp; omega)]
    rfl
/-- A word begins a line. -/
theorem all_new {wd : Nat} (h0 : 0 < wd) {st : Wst} {w : List UInt8} (hw : ¬ w = []) (hf : st.cur = [] ∨ ¬ st.cur.length + 1 + w.length ≤ wd) : (wrapW wd st w).all = st.all ++ chopA wd w ++ [chopZ wd w] := by
  unfold wrapW
  rw [if_neg hw, if_neg (fun h => hf.elim h.1 (fun h2 => h2 h.2))]
  unfold Wst.all
  dsimp only
  rw [if_neg (chopZ_pos h0 w.length w (Nat.le_refl _) hw)]
theorem wrapL_len {wd : Nat} (h0 : 0 < wd) (ws : List (List UInt8)) : (wrapL wd ws).all.length ≤ (ws.map fun w => w.length + 1).sum := by
  have key : ∀ (ws : List (List UInt8)) (st : Wst), (ws.foldl (wrapW wd) st).all.length ≤ st.all.length + (ws.map fun w => w.length + 1).sum := by
    intro ws
    induction ws with
    | nil => intro st; simp
    | cons w r ih =>
      intro st
      have h1 := ih (wrapW wd st w)
      have h2 : (wrapW wd st w).all.length ≤ st.all.length + (w.length + 1) := by
        by_cases hw : w = []
        · unfold wrapW; rw [if_pos hw]; omega
        · by_cases hc : st.cur = [] ∨ ¬ st.cur.length + 1 + w.length ≤ wd
          · rw [all_new h0 hw hc]
            have := chopA_len h0 w.length w (Nat.le_refl _)
            simp
            omega
          · have hc1 : ¬ st.cur = [] := fun e => hc (.inl e)
            have hc2 : st.cur.length + 1 + w.length ≤ wd := Classical.byContradiction fun e => hc (.inr e)
            rw [(all_fits hw hc1 hc2).1, List.length_modify]
            omega
      rw [List.foldl_cons, List.map_cons, List.sum_cons]
      omega
  have h1 := key ws ⟨[], []⟩
  have h2 : (⟨[], []⟩ : Wst).all.length = 0 := rfl
  unfold wrapL
  omega
theorem wordsA_ne2 (l : List UInt8) : ∀ cur w, w ∈ wordsA l cur → ¬ w = [] := by
  induction l with
  | nil =>
    intro cur w h
    unfold wordsA at h
    split at h
    · cases h
    · rw [List.mem_singleton] at h; subst h; assumption
  | cons c l ih =>
    intro cur w h
    unfold wordsA at h
    split at h
    · split at h
      · exact ih _ _ h
      · rcases List.mem_cons.1 h with rfl | h
        · assumption
        · exact ih _ _ h
    · exact ih _ _ h
theorem wordsA_sum (l : List UInt8) : ∀ cur, ((wordsA l cur).map fun w => w.length + 1).sum ≤ cur.length + l.length + 1 := by
  induction l with
  | nil =>
    intro cur
    unfold wordsA
    split
    · simp
    · simp
  | cons c l ih =>
    intro cur
    unfold wordsA
    split
    · split
      · have := ih []; simp at this ⊢; omega
      · have := ih []; simp at this ⊢; omega
    · have := ih (cur ++ [c]); simp at this ⊢; omega
end Go.Proofs.YtndillbimibecaaGreatDoor

