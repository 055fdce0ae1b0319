/- Texts packed: Mem, Args, DecS, Gen, HexS, Map, MapG, QStore, QSegs, QSegs2, QSegs3, RegIn, Rep, FilesS, Own, Own2, Own3, RollS, CodeS, CodeV, EvS, GenA, GrowS, AppS, GrowI, OwnMod, GrowB, GrowJ, NestS, GrowM, PushK, OpPush, RollW, RollX, ScriptT, SegIn, SeqC, KeepM, Shelf, AtoiW, BldW, BldK, RefA, Shelf2, Str, CodeW, CutS, CutW, DecW, GenC, GenE, HexW, FilesW, FilesX, FilesY, NumS, PlainS, SlateS. -/
import Derived.Below
import Derived.Laws.OwnMore
import Derived.Deep.AppendLies
import Derived.Deep.Draws
import Derived.WalkKit
import Derived.WalkSpells
import Derived.WalkLawsBesides
import Derived.Lib.Hide
import Derived.ProofKit
import Derived.OpenShut
import Derived.SizedLaws
import Derived.SliceStrings
import Derived.Lib.AtoiAll
import Derived.Lib.ItoaNum
import Derived.Test.YtnemcnpilngblaaDoorRows
import Derived.BigQuiet
import Derived.Deep.QuietTactic
import Derived.Maps.OwnOps
import Derived.Maps.OwnSet
import Derived.RegionTactic
import Derived.OrdersHeld
import Derived.Deep.Quiet
import Derived.StillTail
import Derived.Deep.RegionLaw
import Derived.OrdersIn
import Derived.RangeFuncCalls
import Derived.OwnWalkIn
import Derived.Lib.FieldsP
import Derived.Lib.Split
import Derived.Lib.SplitLaws
import Derived.Lib.Join
import Derived.Lib.Repeat
import Derived.OneCell
import Derived.Room.AppendOnto
import Derived.Deep.RegionWith
import Derived.RangeFuncBox
import Derived.RangeFuncLeaves
import Derived.RangeFuncFrom
import Derived.Shelf.Strings.Builder1
import Derived.Shelf.Strings.Builder2
import Derived.Shelf.Strings.OnBuilder
import Derived.Shelf.Small.Utf8
import Derived.Shelf.Small.Strs
import Derived.Shelf.Small.Wraps
import Derived.Shelf.Strings.BuilderF
import Derived.Shelf.Strings.BuilderK
import Derived.Shelf.Strings.Builder2Cap
import Derived.Shelf.Strings.Search1
import Derived.Shelf.Strings.Search2
import Derived.Shelf.Strings.Search3
import Derived.Shelf.Strings.Cut
import Derived.Shelf.Strings.Count
import Derived.Shelf.LaysM
import Derived.Shelf.Strings.Shaped
import Derived.Shelf.Strings.LastIndex
import Derived.Shelf.Strings.LastIndexAll
import Derived.Shelf.Strings.Prefix
import Derived.Shelf.Strings.Split
import Derived.Shelf.Strings.Fields
import Derived.Shelf.Strings.SplitShaped
import Derived.Shelf.Unicode.Latin
import Derived.Shelf.Unicode.Decode
import Derived.Shelf.Strings.Runes
import Derived.Shelf.Strings.RuneCount
import Derived.Shelf.Strings.IndexAny
import Derived.Shelf.Strings.AsciiSet
import Derived.Shelf.Strings.IndexAnyAll
import Derived.Shelf.Strings.Explode
import Derived.Shelf.Unicode.DecodeSlow
import Derived.Shelf.Unicode.DecodeAny
import Derived.Shelf.Unicode.Is16White
import Derived.Shelf.Unicode.IsSpaceAny
import Derived.Shelf.Strings.FieldsFuncAny
import Derived.Shelf.Unicode.Is16Any
import Derived.Shelf.Unicode.Is32Any
import Derived.Shelf.Unicode.ExclAny
import Derived.Shelf.Strings.FieldsFuncGrows
import Derived.Shelf.Strings.BuilderCap
import Derived.Shelf.Slices.Turned
import Derived.Shelf.Slices.Equal
import Derived.Shelf.Slices.Empties2
import Derived.Ground.SlgnProg
import Derived.Shelf.SlicesE.Equal
import Derived.Test.YtnemcnpilngblaaDoorProg
import Derived.Lib.SmallJoins
import Derived.Shelf.Strconv.AtoiAll
import Derived.Shelf.Strings.SlTrimAscii
import Derived.Laws.IdiomStrings
import Derived.Lib.QuietBelow
import Derived.Lib.IndexLaws
import Derived.Shelf.Strconv.Itoa3
import Derived.Laws.Bits64
import Derived.Laws.Bits64b
import Derived.Outline
import Derived.Deep.RegionHeld3
import Derived.Lib.Strings
import Derived.Lib.IndexMore
/- Words for memory: a slice that reads as a list of elements of a fixed number of cells; small laws on worlds. No program in sight. -/
namespace Go.Proofs.YtnemcnpilngblaaDoor
set_option linter.unusedVariables false
open Go.RowKit

section
variable {α : Type} {w w' : World} {lo lo' hi hi' B size : Nat} {enc : α → List Value} {A : Option Addr} {l : List α}
end

def okI (x : Int) : Prop := -9223372036854775808 ≤ x ∧ x ≤ 9223372036854775807


theorem take_next {α : Type} {q : α → Prop} {l : List α} {k : Nat} (hk : k < l.length) (h : ∀ x ∈ l.take k, q x) (hq : q l[k]) : ∀ x ∈ l.take (k + 1), q x := by
  rw [List.take_succ_eq_append_getElem hk]
  intro x hx
  rcases List.mem_append.1 hx with hx | hx
  · exact h x hx
  · simp at hx; rw [hx]; exact hq
theorem take_all {α : Type} {q : α → Prop} {l : List α} {k : Nat} (hk : ¬ k < l.length) (h : ∀ x ∈ l.take k, q x) : ∀ x ∈ l, q x := by
  rw [List.take_of_length_le (by omega)] at h; exact h
theorem intNum {k : Nat} : Value.int .i64 ((k : Int) + 1) = .int .i64 ((k + 1 : Nat) : Int) := by simp

theorem beq_ba (a b : ByteArray) : (a == b) = decide (a = b) := by
  rcases a with ⟨a⟩; rcases b with ⟨b⟩
  show (a == b) = _
  rw [Bool.eq_iff_iff]; simp
theorem beqS (a b : ByteArray) : (a.toList == b.toList) = decide (a = b) := by rw [← beq_toListBytes, beq_ba]
theorem ret_bool {a b : Bool} (h : a = b) : Ending.returned (.bool a) = .returned (.bool b) := by rw [h]
theorem ret_str {a b : ByteArray} (h : a = b) : Ending.returned (.string a) = .returned (.string b) := by rw [h]

/-- All bytes of a string have p. -/
def allB (p : UInt8 → Bool) (s : ByteArray) : Bool := s.data.toList.all p
theorem allB_no {p : UInt8 → Bool} {s : ByteArray} {k : Nat} (hk : k < s.size) (h : p s[k] = false) : allB p s = false := by
  unfold allB
  rw [List.all_eq_false]
  exact ⟨s[k], by rw [show s[k] = s.data.toList[k]'(by simpa using hk) from rfl]; exact List.getElem_mem _, by simp [h]⟩
theorem allB_yes {p : UInt8 → Bool} {s : ByteArray} {k : Nat} (hk : ¬ k < s.size) (h : ∀ x ∈ s.data.toList.take k, p x = true) : allB p s = true := by
  unfold allB
  rw [List.all_eq_true]
  exact take_all (by simpa using hk) h
theorem allB_next {p : UInt8 → Bool} {s : ByteArray} {k : Nat} (hk : k < s.size) (h : ∀ x ∈ s.data.toList.take k, p x = true) (hp : p s[k] = true) : ∀ x ∈ s.data.toList.take (k + 1), p x = true :=
  take_next (q := fun x => p x = true) (by simpa using hk) h hp

theorem below_drewN {B : Nat} {a w : World} (h : Below B a w) (n : Nat) : Below B a (w.drewN n) := ⟨h.os, h.tape, h.output, h.size, h.block⟩

/-- Two tests of a byte that agree at each of the 256. -/
theorem u8_eq {p q : UInt8 → Bool} (h : ((List.range 256).all fun n => p (UInt8.ofNat n) == q (UInt8.ofNat n)) = true) : ∀ c, p c = q c := by
  intro c
  rw [List.all_eq_true] at h
  have := h c.toNat (List.mem_range.2 c.toNat_lt)
  simpa using this
end Go.Proofs.YtnemcnpilngblaaDoor

/- A law's arguments, opened: a slice of ints, a string, a slice of strings. No program in sight. -/
namespace Go.Proofs.YtnemcnpilngblaaDoor
set_option linter.unusedVariables false
open Go.ChangeShapes Go.WideShapes Go.ChangeAt Go.RowKit

section
variable {H : Type} {enc : TypeId × Value → H} {P : Program} {W : World}
theorem argString {ts : List TypeId} {ds : List (DataW H)} {j : Nat} {t : TypeId} {s : ByteArray} (hw : (DataW.weightsEach P ts ds).all (· ≤ reachBytes) = true) (hj : ts[j]? = some t) (hd : ds[j]? = some (.lit (.string s.data.toList))) : s.size ≤ 140737488355328 := by
  have hs := sized_string hw hj hd
  have hr := reachBytes_lt
  have : s.size = s.data.toList.length := by simp
  omega
end
end Go.Proofs.YtnemcnpilngblaaDoor

/- Decimal numerals, in plain words. No program in sight. -/
namespace Go.Proofs.YtnemcnpilngblaaDoor
set_option linter.unusedVariables false
open Go.RowKit

end Go.Proofs.YtnemcnpilngblaaDoor

/- The generator's own functions: what each returns lies in its range; only the stream's own block turns. -/
namespace Go.Proofs.YtnemcnpilngblaaDoor
set_option linter.unusedVariables false
open Go.RowKit

theorem str_cells {w : World} {sb : Nat} {cs : Array Value} {t : TypeId} (h : w.heap[sb]? = some (.cells cs t (0, 0))) :
    (∀ i, w.cell? ⟨sb, i, none⟩ = cs[i]?) ∧ (∀ i, w.frozen? ⟨sb, i, none⟩ = false) := by
  refine ⟨fun i => by simp [World.cell?, h], fun i => by simp [World.frozen?, h]⟩

theorem heap_lt {w : World} {b : Nat} {o : Obj} (h : w.heap[b]? = some o) : b < w.heap.size := (Array.getElem?_eq_some_iff.1 h).1

end Go.Proofs.YtnemcnpilngblaaDoor

/- Digests and their sixteen figures, in plain words. No program in sight. -/
namespace Go.Proofs.YtnemcnpilngblaaDoor
set_option linter.unusedVariables false
open Go.RowKit

end Go.Proofs.YtnemcnpilngblaaDoor

/- Maps with keys of one plain type (strings, ints, bools), as lists of pairs: a look-up, a store, in the walk. No program in sight. -/
namespace Go.Proofs.YtnemcnpilngblaaDoor
set_option linter.unusedVariables false
open Go.RowKit

/-- What a plain key type asks: keys are told apart by the model's quick look. -/
structure PlainKey (P : Program) (k : TypeId) {κ : Type} [DecidableEq κ] (mk : κ → Value) : Prop where
  desc : ∃ d, P.underlying k = some d ∧ (∀ a b, Instr.sameNow d (mk a) (mk b) = some (decide (a = b))) ∧
    (∀ ms, d ≠ .interface ms) ∧ (∀ n e, d ≠ .array n e) ∧ (∀ fs, d ≠ .struct fs)
  bits : ∀ a, Instr.sameBits 10000 (mk a) (mk a) = true

theorem plainKey_string {P : Program} {k : TypeId} (h : P.underlying k = some .string) : PlainKey P k Value.string :=
  ⟨⟨_, h, fun a b => by simp only [Instr.sameNow, beq_ba], by simp, by simp, by simp⟩, fun a => by simp [Instr.sameBits, beq_ba]⟩
section
variable {κ : Type} [DecidableEq κ] {mk : κ → Value}

/-- What a map holds, oldest first, as keys and values. -/
def lk : List (κ × Value) → κ → Option Value
  | [], _ => none
  | (k, v) :: m, x => if x = k then some v else lk m x
def ix : List (κ × Value) → κ → Option (Nat × Value)
  | [], _ => none
  | (k, v) :: m, x => if x = k then some (0, v) else (ix m x).map fun p => (p.1 + 1, p.2)
def up : List (κ × Value) → κ → Value → List (κ × Value)
  | [], k, v => [(k, v)]
  | (k', v') :: m, k, v => if k = k' then (k, v) :: m else (k', v') :: up m k v

theorem lk_up (m : List (κ × Value)) (k : κ) (v : Value) (x : κ) : lk (up m k v) x = if x = k then some v else lk m x := by
  induction m with
  | nil => simp [up, lk]
  | cons p m ih =>
    obtain ⟨k', v'⟩ := p
    by_cases hk : k = k'
    · subst hk; by_cases hx : x = k <;> simp [up, lk, hx]
    · by_cases hx : x = k
      · subst hx; simp [up, lk, hk, ih]
      · simp [up, lk, hk, ih, hx]
theorem lk_ix (m : List (κ × Value)) (x : κ) : lk m x = (ix m x).map (·.2) := by
  induction m with
  | nil => rfl
  | cons p m ih =>
    obtain ⟨k', v'⟩ := p
    by_cases hx : x = k' <;> simp [lk, ix, hx, ih, Function.comp_def]

def pairs (mk : κ → Value) (m : List (κ × Value)) : List (Value × Value) := m.map fun p => (mk p.1, p.2)
def epairs (es : List MapEntry) : List (Value × Value) := es.map fun e => (e.key, e.val)

theorem find_ix {d : TypeDesc} (hd : ∀ a b, Instr.sameNow d (mk a) (mk b) = some (decide (a = b))) (x : κ) (m : List (κ × Value)) :
    ∀ (es : List MapEntry) (i : Nat), epairs es = pairs mk m → Instr.findNow d (mk x) es i = some ((ix m x).map fun p => (i + p.1, p.2)) := by
  induction m with
  | nil => intro es i h; simp [epairs, pairs] at h; subst h; rfl
  | cons p m ih =>
    obtain ⟨k', v'⟩ := p
    intro es i h
    obtain _ | ⟨e, es⟩ := es
    · simp [epairs, pairs] at h
    · simp only [epairs, pairs, List.map_cons, List.cons.injEq, Prod.mk.injEq] at h
      obtain ⟨⟨h1, h2⟩, h3⟩ := h
      simp only [Instr.findNow, h1, hd, ix]
      by_cases hx : x = k'
      · simp [hx, h2]
      · simp only [hx, decide_false, if_false]
        rw [ih es (i + 1) h3]
        cases ix m x <;> simp <;> omega

theorem up_none (m : List (κ × Value)) (k : κ) (v : Value) (h : ix m k = none) : up m k v = m ++ [(k, v)] := by
  induction m with
  | nil => rfl
  | cons p m ih =>
    obtain ⟨k', v'⟩ := p
    by_cases hk : k = k'
    · simp [ix, hk] at h
    · simp [ix, hk] at h; simp [up, hk, ih h]

theorem up_some (m : List (κ × Value)) (k : κ) (v : Value) (j : Nat) (u : Value) (h : ix m k = some (j, u)) :
    ∀ es : List MapEntry, epairs es = pairs mk m → (∃ e, es[j]? = some e ∧ e.key = mk k) ∧ epairs (es.modify j fun e => { e with key := mk k, val := v }) = pairs mk (up m k v) := by
  induction m generalizing j with
  | nil => simp [ix] at h
  | cons p m ih =>
    obtain ⟨k', v'⟩ := p
    intro es he
    obtain _ | ⟨e, es⟩ := es
    · simp [epairs, pairs] at he
    · simp only [epairs, pairs, List.map_cons, List.cons.injEq, Prod.mk.injEq] at he
      obtain ⟨⟨h1, h2⟩, h3⟩ := he
      by_cases hk : k = k'
      · subst hk
        simp [ix] at h
        obtain ⟨rfl, rfl⟩ := h
        simp [epairs, pairs, up, h1]
        exact h3
      · simp only [ix, hk, if_false] at h
        cases hx : ix m k with
        | none => rw [hx] at h; simp at h
        | some q =>
          rw [hx] at h
          simp at h
          obtain ⟨rfl, rfl⟩ := h
          obtain ⟨⟨e', g1, g2⟩, g3⟩ := ih _ hx es h3
          refine ⟨⟨e', by simpa using g1, g2⟩, ?_⟩
          simp only [up, hk, if_false]
          simp only [List.modify_succ_cons, epairs, pairs, List.map_cons, h1, h2] at g3 ⊢
          rw [g3]

/-- Block b is a map that holds m. -/
def MapL (w : World) (b : Nat) (mk : κ → Value) (m : List (κ × Value)) : Prop :=
  ∃ es clock, w.heap[b]? = some (.map es clock) ∧ epairs es.toList = pairs mk m

variable {w w' : World} {b B : Nat} {m : List (κ × Value)}
omit [DecidableEq κ] in
theorem MapL.lt (h : MapL w b mk m) : b < w.heap.size := by
  obtain ⟨es, clock, hb, _⟩ := h
  exact (Array.getElem?_eq_some_iff.1 hb).1
omit [DecidableEq κ] in
theorem MapL.keep (h : MapL w b mk m) (hk : w'.heap[b]? = w.heap[b]?) : MapL w' b mk m := by
  obtain ⟨es, clock, hb, h⟩ := h
  exact ⟨es, clock, hk.trans hb, h⟩
omit [DecidableEq κ] in
theorem MapL.below (h : MapL w b mk m) (hb : Below B w w') (hlt : b < B) : MapL w' b mk m := h.keep (hb.block b hlt)
omit [DecidableEq κ] in
theorem MapL.alloc (h : MapL w b mk m) (o : Obj) : MapL (w.alloc o) b mk m := h.keep (Below.heap_alloc w o b h.lt)
omit [DecidableEq κ] in
theorem MapL.setCell (h : MapL w b mk m) {p : Addr} (hne : b ≠ p.block) (u : Value) : MapL (w.setCell p u) b mk m := h.keep (Below.heap_setCell w p u b hne)
omit [DecidableEq κ] in
theorem MapL.drewN (h : MapL w b mk m) (n : Nat) : MapL (w.drewN n) b mk m := h
omit [DecidableEq κ] in
theorem MapL.made (w : World) : MapL (w.alloc (.map #[] 0)) w.heap.size mk ([] : List (κ × Value)) := ⟨#[], 0, heap_alloc_new w _, rfl⟩

theorem checkKey_plain {P : Program} {k : TypeId} (K : PlainKey P k mk) (x : κ) (c : Bool) (w : World) : (Instr.checkKey c 10000 k (mk x)).run P w = .ok () w := by
  obtain ⟨d, hd, _, h1, h2, h3⟩ := K.desc
  unfold Instr.checkKey
  simp only [Sem.run_bind, run_underlying hd, Result.andThen_ok]
  split <;> first | rfl | (exfalso; first | exact h1 _ rfl | exact h2 _ _ rfl | exact h3 _ rfl)

theorem run_lookup_plain {P : Program} {t k e : TypeId} (K : PlainKey P k mk) (ht : P.underlying t = some (.map k e)) {z : Value} (hz : (zeroValue e).run P w = .ok z w) (h : MapL w b mk m) (x : κ) (ok : Bool) :
    (Instr.lookup t (.map (some b)) (mk x) ok).run P w = .ok (if ok then .tuple #[(lk m x).getD z, .bool (lk m x).isSome] else (lk m x).getD z) w := by
  obtain ⟨es, clock, hb, he⟩ := h
  obtain ⟨d, hd, hs, _⟩ := K.desc
  have hck := fun c => checkKey_plain K x c w
  have hf := find_ix hs x m es.toList 0 he
  simp only [Nat.zero_add] at hf
  rw [lk_ix]
  cases hx : ix m x with
  | none =>
    rw [hx] at hf
    simp [Instr.lookup, run_underlying ht, getObj, Sem.run, hb, hck, Instr.findKey, run_underlying hd, hf, hz]
  | some p =>
    rw [hx] at hf
    simp [Instr.lookup, run_underlying ht, getObj, Sem.run, hb, hck, Instr.findKey, run_underlying hd, hf]

theorem run_update_plain {P : Program} {t k e : TypeId} (K : PlainKey P k mk) (ht : P.underlying t = some (.map k e)) (h : MapL w b mk m) (x : κ) (v : Value) :
    ∃ w', (Instr.mapUpdate t (.map (some b)) (mk x) v).run P w = .ok () w' ∧ MapL w' b mk (up m x v) ∧ w.grownBy w' (some b) := by
  obtain ⟨es, clock, hb, he⟩ := h
  obtain ⟨d, hd, hs, _⟩ := K.desc
  have hck := fun c => checkKey_plain K x c w
  have hf := find_ix hs x m es.toList 0 he
  simp only [Nat.zero_add] at hf
  have hgb : ∀ o, w.grownBy { w with heap := w.heap.setIfInBounds b o } (some b) := fun o =>
    ⟨rfl, rfl, rfl, by simp, fun i _ hi => by
      show (w.heap.setIfInBounds b o)[i]? = _
      rw [Array.getElem?_setIfInBounds_ne (fun e => hi (by rw [e]))]⟩
  have hlt : b < w.heap.size := (Array.getElem?_eq_some_iff.1 hb).1
  have hnew : ∀ o, (w.heap.setIfInBounds b o)[b]? = some o := fun o => by rw [Array.getElem?_setIfInBounds]; simp [hlt]
  cases hx : ix m x with
  | none =>
    rw [hx] at hf
    refine ⟨{ w with heap := w.heap.setIfInBounds b (.map (es.push { key := mk x, val := v, born := clock }) (clock + 1)) }, ?_, ⟨_, _, hnew _, ?_⟩, hgb _⟩
    · simp [Instr.mapUpdate, run_underlying ht, getObj, setObj, Sem.run, hb, hck, Instr.findKey, run_underlying hd, hf]
    · rw [up_none m x v hx]; simp [epairs, pairs] at he ⊢; exact he
  | some p =>
    obtain ⟨j, u⟩ := p
    rw [hx] at hf
    obtain ⟨⟨e0, h1, h2⟩, h3⟩ := up_some m x v j u hx es.toList he
    have h1' : es[j]? = some e0 := by simpa using h1
    refine ⟨{ w with heap := w.heap.setIfInBounds b (.map (es.modify j fun e => { e with key := mk x, val := v }) clock) }, ?_, ⟨_, _, hnew _, ?_⟩, hgb _⟩
    · simp [Instr.mapUpdate, run_underlying ht, getObj, setObj, Sem.run, hb, hck, Instr.findKey, run_underlying hd, hf, h1', h2, Instr.keyThatStays, K.bits]
    · rw [Array.toList_modify]; exact h3

/-- 'm[k] = v' at the operation. -/
theorem wpList_update_plain {P : Program} (w : World) {ops : Array Oper} {rest : List Oper} {o : Oper} {a : Act} {Q : Exit → Act → World → Prop}
    (hg : o.guard = none) (mo xo vo : Operand) (t : TypeId) (hop : o.op = Op.mapUpdate t mo xo vo) (k e : TypeId) (K : PlainKey P k mk) (ht : P.underlying t = some (.map k e))
    (b : Nat) (m : List (κ × Value)) (hm : a.eval mo = .map (some b)) (h : MapL w b mk m) (x : κ) (hx : a.eval xo = mk x) (v : Value) (hv : a.eval vo = v)
    (hK : ∀ w', MapL w' b mk (up m x v) → w.grownBy w' (some b) → wpList P ops Q rest (a.put o.dst undef) w') :
    wpList P ops Q (o :: rest) a w := by
  refine wpList_plain hg fun K' hK' => ?_
  obtain ⟨w', hrun, r1, r2⟩ := run_update_plain K ht h x v
  unfold Oper.wp
  simp [execOp, hop, hm, hx, hv, hrun, Result.andThen]
  exact hK' _ _ (hK w' r1 r2)
end
end Go.Proofs.YtnemcnpilngblaaDoor

/- A look-up behind a guard that holds. No program in sight. -/
namespace Go.Proofs.YtnemcnpilngblaaDoor
set_option linter.unusedVariables false
open Go.RowKit
theorem wpList_lookup_g {κ : Type} [DecidableEq κ] {mk : κ → Value} {P : Program} (w : World) {ops : Array Oper} {rest : List Oper} {o : Oper} {a : Act} {Q : Exit → Act → World → Prop}
    (hg : Region.wanted o (yielded ops a.tmps) = true) (mo xo : Operand) (t : TypeId) (ok : Bool) (hop : o.op = Op.lookup t mo xo ok) (k e : TypeId) (K : PlainKey P k mk) (ht : P.underlying t = some (.map k e)) (z : Value) (hz : (zeroValue e).run P w = .ok z w)
    (b : Nat) (m : List (κ × Value)) (hm : a.eval mo = .map (some b)) (h : MapL w b mk m) (x : κ) (hx : a.eval xo = mk x)
    (hK : wpList P ops Q rest (a.put o.dst (if ok then .tuple #[(lk m x).getD z, .bool (lk m x).isSome] else (lk m x).getD z)) w) :
    wpList P ops Q (o :: rest) a w := by
  refine wpList_step fun K' hK' => ?_
  rw [if_pos hg]
  have hrun := run_lookup_plain K ht hz h x ok
  unfold Oper.wp
  simp only [execOp, hop, hm, hx, hrun, Sem.run_bind, Result.andThen]
  exact hK' _ _ hK
end Go.Proofs.YtnemcnpilngblaaDoor

/- A region that draws its order: reads, then one store, then one assignment; the reads may come behind the store, which leaves what they read. No program in sight. -/
namespace Go.Proofs.YtnemcnpilngblaaDoor
set_option linter.unusedVariables false

section
variable {P : Program} {ops : Array Oper} {md : Region.Mode}

/-- Operations that hand back a value and leave the world. -/
def readOp (o : Oper) : Bool :=
  match o.op with
  | .move _ | .assign _ | .pick _ _ _ | .binOp _ _ _ _ _ | .unOp _ _ _ | .load _ _ | .fieldAddr _ _ _ | .indexAddr _ _ _ | .build _ _ | .extract _ _ | .nilCheck _ => true
  | _ => false
theorem run_v {α : Type} {f : α → Value} {s : Sem α} {w w' : World} {n : Next} (h : (s >>= fun x => pure (Next.value (f x)) : Sem Next).run P w = .ok n w') : ∃ u, n = .value u := by
  rw [Sem.run_bind] at h
  cases hs : s.run P w with
  | ok u w1 =>
    rw [hs] at h
    simp only [Result.andThen, Sem.run_pure] at h
    injection h with h1 h2
    exact ⟨_, h1.symm⟩
  | halt x w1 => rw [hs] at h; simp only [Result.andThen] at h; cases h
theorem run_nilCheck {ρ : Operand → Value} {x : Operand} {o : Oper} {w w' : World} {n : Next} (e : o.op = .nilCheck x) (h : (execOp ρ o).run P w = .ok n w') : ∃ u, n = .value u := by
  unfold execOp at h
  rw [e] at h
  dsimp only at h
  split at h
  · cases h
  · cases h
  · cases h
  · split at h
    · cases h
    · rw [Sem.run_bind] at h
      rename_i t v _ _ _
      cases hp : Sem.run P program w with
      | halt x w1 => rw [hp] at h; simp only [Result.andThen] at h; cases h
      | ok p w1 =>
        rw [hp] at h
        simp only [Result.andThen] at h
        rw [Sem.run_bind] at h
        generalize hs : Sem.run P _ w1 = r at h
        cases r with
        | halt x w2 => simp only [Result.andThen] at h; cases h
        | ok b w2 =>
          simp only [Result.andThen] at h
          split at h
          · rw [Sem.run_bind] at h
            generalize hs2 : Sem.run P _ w2 = r at h
            cases r with
            | halt x w3 => simp only [Result.andThen] at h; cases h
            | ok u w3 =>
              simp only [Result.andThen, Sem.run_pure] at h
              injection h with h1 h2
              exact ⟨_, h1.symm⟩
          · simp only [Sem.run_pure] at h
            injection h with h1 h2
            exact ⟨_, h1.symm⟩
    · rw [Sem.run_pure] at h; injection h with h1 h2; exact ⟨_, h1.symm⟩
  · rw [Sem.run_pure] at h; injection h with h1 h2; exact ⟨_, h1.symm⟩
theorem readOp_value {o : Oper} {ρ : Operand → Value} {w w' : World} {n : Next} (ho : readOp o = true) (h : (execOp ρ o).run P w = .ok n w') : ∃ u, n = .value u := by
  unfold readOp at ho
  split at ho
  all_goals first
    | (rename_i e; exact run_nilCheck e h)
    | (rename_i e; unfold execOp at h; rw [e] at h; dsimp only at h; first | exact run_v h | exact run_v (f := id) h | (rw [Sem.run_pure] at h; injection h with h1 h2; exact ⟨_, h1.symm⟩))
    | cases ho
theorem read_yields {o : Oper} {a : Act} {D : World → Prop} {v : Value} {w : World} (ho : readOp o = true) (h : o.quietAt P a D w v) : (execOp a.eval o).run P w = .ok (.value v) w := by
  unfold Oper.quietAt at h
  cases hr : (execOp a.eval o).run P w with
  | ok n w' =>
    obtain ⟨u, rfl⟩ := readOp_value ho hr
    rw [hr] at h
    obtain ⟨h1, h2⟩ := h
    rw [h1, h2]
  | halt x w' => rw [hr] at h; exact h.elim
theorem wpQuiet_mono {P : Program} {ops : Array Oper} {C : World → Prop} {K K' : Act → Prop} (hk : ∀ a, K a → K' a) : ∀ {l : List Oper} {a : Act}, wpQuiet P ops C K l a → wpQuiet P ops C K' l a
  | [], _, h => hk _ h
  | o :: l, a, h => by
    unfold wpQuiet at h ⊢
    split
    · rename_i hw; rw [if_pos hw] at h; exact Oper.quiet_mono (fun _ h => wpQuiet_mono hk h) h
    · rename_i hw; rw [if_neg hw] at h; exact wpQuiet_mono hk h
end
end Go.Proofs.YtnemcnpilngblaaDoor

/- A region that draws its order: reads, and operations that come one at a time once the reads are taken; the last ones may write what has been read. No program in sight. (The first law's proof follows the kit's for regions that are held.) -/
namespace Go.Proofs.YtnemcnpilngblaaDoor
set_option linter.unusedVariables false

section
variable {P : Program} {ops : Array Oper} {Q : Exit → Act → World → Prop} {md : Region.Mode} {S : World → Prop} {b p : Nat → Bool}

/-- Whatever order is picked from here on, and S holds behind each operation that b names. -/
def wpAnyT (P : Program) (md : Region.Mode) (ops : Array Oper) (Q : Exit → Act → World → Prop) (S : World → Prop) (b p : Nat → Bool) : Nat → Array Bool → Act → World → Prop
  | 0, listed, a, w => Region.ready md ops listed = [] ∧ Q .normal a w
  | fuel + 1, listed, a, w =>
    (Region.ready md ops listed = [] → Q .normal a w) ∧
    ∀ i ∈ Region.ready md ops listed, wpOp P ops Q i (fun a' w' => ((b i = true → S w') ∧ (p i = true → w' = w)) ∧ wpAnyT P md ops Q S b p fuel (listed.setIfInBounds i true) a' w') a w
theorem wpAny_of_T : ∀ (fuel : Nat) (listed : Array Bool) (a : Act) (w : World), wpAnyT P md ops Q S b p fuel listed a w → wpAny P md ops Q fuel listed a w
  | 0, _, _, _, h => h
  | fuel + 1, _, _, _, h => ⟨h.1, fun i hi => wpOp_mono (fun a' w' h' => wpAny_of_T fuel _ a' w' h'.2) (h.2 i hi)⟩
theorem wpAnyT_first {i : Nat} {oi : Oper} {v : Value} (hi : ops[i]? = some oi) (hsel : ∀ (j : Nat) (o : Oper) cs b, ops[j]? = some o → o.op ≠ .select cs b)
    (hQ : ∀ c a w, Q (.panic c) (a.put oi.dst v) w → Q (.panic c) a w) :
    ∀ (fuel : Nat) (listed : Array Bool) (a : Act) (w : World),
      (∀ j oj, ops[j]? = some oj → j ≠ i → listed.getD j true = false → (∀ e ∈ oj.after, Region.binds md e = true → e.on ≠ i) → oi.apart ops oj = true) →
      (∀ j oj, ops[j]? = some oj → j ≠ i → listed.getD j true = false → (b j = true ∨ p j = true) ∨ ∃ e ∈ oj.after, Region.binds md e = true ∧ e.on = i) →
      i ∈ Region.ready md ops listed → YieldsIf P ops S oi v a → S w →
      wpAnyT P md ops Q S b p fuel (listed.setIfInBounds i true) (a.put oi.dst v) w → wpAnyT P md ops Q S b p (fuel + 1) listed a w := by
  intro fuel
  induction fuel with
  | zero =>
    intro listed a w _ _ hr hy hS H
    refine ⟨fun h => (by rw [h] at hr; cases hr), fun j hj => ?_⟩
    by_cases hji : j = i
    · subst hji; exact hy.wpOp hi hS ⟨⟨fun _ => hS, fun _ => rfl⟩, H⟩
    · have := ready_mono hj hji
      rw [H.1] at this
      cases this
  | succ fuel ih =>
    intro listed a w hfree hwt hr hy hS H
    refine ⟨fun h => (by rw [h] at hr; cases hr), fun j hj => ?_⟩
    by_cases hji : j = i
    · subst hji; exact hy.wpOp hi hS ⟨⟨fun _ => hS, fun _ => rfl⟩, H⟩
    · have h1 := H.2 j (ready_mono hj hji)
      obtain ⟨hjun, oj, hoj, hall⟩ := mem_ready.1 hj
      have hnot : ∀ e ∈ oj.after, Region.binds md e = true → e.on ≠ i := fun e he hb heq => by
        have h1 := hall e he hb
        have h0 := (mem_ready.1 hr).1
        rw [heq] at h1
        rcases Nat.lt_or_ge i listed.size with h' | h'
        · simp [h'] at h0 h1; rw [h0] at h1; cases h1
        · simp [Array.getElem?_eq_none h'] at h1
      have hjn : b j = true ∨ p j = true := (hwt j oj hoj hji hjun).resolve_right fun ⟨e, he, hb, hon⟩ => hnot e he hb hon
      have h2 := wpOp_putIf hoj (hfree j oj hoj hji hjun hnot) (fun cs b => hsel i oi cs b hi) (fun cs b => hsel j oj cs b hoj) hQ hy h1
      have hfree' : ∀ k ok, ops[k]? = some ok → k ≠ i → (listed.setIfInBounds j true).getD k true = false →
          (∀ e ∈ ok.after, Region.binds md e = true → e.on ≠ i) → oi.apart ops ok = true := fun k ok hk hki hun hno => by
        refine hfree k ok hk hki ?_ hno
        by_cases hjk : j = k
        · subst hjk; exact hjun
        · rw [getD_set_ne true hjk] at hun; exact hun
      have hwt' : ∀ k ok, ops[k]? = some ok → k ≠ i → (listed.setIfInBounds j true).getD k true = false → (b k = true ∨ p k = true) ∨ ∃ e ∈ ok.after, Region.binds md e = true ∧ e.on = i := fun k ok hk hki hun => by
        refine hwt k ok hk hki ?_
        by_cases hjk : j = k
        · subst hjk; exact hjun
        · rw [getD_set_ne true hjk] at hun; exact hun
      refine wpOp_mono (fun a' w' h3 => ⟨h3.2.1, ih (listed.setIfInBounds j true) a' w' hfree' hwt' (ready_mono hr (Ne.symm hji)) h3.1 (hjn.elim h3.2.1.1 fun h => by rw [h3.2.1.2 h]; exact hS) ?_⟩) h2
      rw [Array.setIfInBounds_comm _ _ hji]
      exact h3.2.2
theorem wpAnyT_firstW {i : Nat} {oi : Oper} {v : Value} (hi : ops[i]? = some oi) (hbi : b i = false) (hsel : ∀ (j : Nat) (o : Oper) cs b, ops[j]? = some o → o.op ≠ .select cs b)
    (hQ : ∀ c a w, Q (.panic c) (a.put oi.dst v) w → Q (.panic c) a w) :
    ∀ (fuel : Nat) (listed : Array Bool) (a : Act) (w : World),
      (∀ j oj, ops[j]? = some oj → j ≠ i → listed.getD j true = false → (∀ e ∈ oj.after, Region.binds md e = true → e.on ≠ i) → oi.apart ops oj = true) →
      i ∈ Region.ready md ops listed → YieldsIf P ops (fun _ => True) oi v a →
      wpAnyT P md ops Q S b p fuel (listed.setIfInBounds i true) (a.put oi.dst v) w → wpAnyT P md ops Q S b p (fuel + 1) listed a w := by
  intro fuel
  induction fuel with
  | zero =>
    intro listed a w _ hr hy H
    refine ⟨fun h => (by rw [h] at hr; cases hr), fun j hj => ?_⟩
    by_cases hji : j = i
    · subst hji; exact hy.wpOp hi trivial ⟨⟨fun h => (by rw [hbi] at h; cases h), fun _ => rfl⟩, H⟩
    · have := ready_mono hj hji
      rw [H.1] at this
      cases this
  | succ fuel ih =>
    intro listed a w hfree hr hy H
    refine ⟨fun h => (by rw [h] at hr; cases hr), fun j hj => ?_⟩
    by_cases hji : j = i
    · subst hji; exact hy.wpOp hi trivial ⟨⟨fun h => (by rw [hbi] at h; cases h), fun _ => rfl⟩, H⟩
    · have h1 := H.2 j (ready_mono hj hji)
      obtain ⟨hjun, oj, hoj, hall⟩ := mem_ready.1 hj
      have hnot : ∀ e ∈ oj.after, Region.binds md e = true → e.on ≠ i := fun e he hb heq => by
        have h1 := hall e he hb
        have h0 := (mem_ready.1 hr).1
        rw [heq] at h1
        rcases Nat.lt_or_ge i listed.size with h' | h'
        · simp [h'] at h0 h1; rw [h0] at h1; cases h1
        · simp [Array.getElem?_eq_none h'] at h1
      have h2 := wpOp_putIf hoj (hfree j oj hoj hji hjun hnot) (fun cs b => hsel i oi cs b hi) (fun cs b => hsel j oj cs b hoj) hQ hy h1
      have hfree' : ∀ k ok, ops[k]? = some ok → k ≠ i → (listed.setIfInBounds j true).getD k true = false →
          (∀ e ∈ ok.after, Region.binds md e = true → e.on ≠ i) → oi.apart ops ok = true := fun k ok hk hki hun hno => by
        refine hfree k ok hk hki ?_ hno
        by_cases hjk : j = k
        · subst hjk; exact hjun
        · rw [getD_set_ne true hjk] at hun; exact hun
      refine wpOp_mono (fun a' w' h3 => ⟨h3.2.1, ih (listed.setIfInBounds j true) a' w' hfree' (ready_mono hr (Ne.symm hji)) h3.1 ?_⟩) h2
      rw [Array.setIfInBounds_comm _ _ hji]
      exact h3.2.2
/-- Each that has not come up is named by b or waits for number r. -/
def restB (md : Region.Mode) (ops : Array Oper) (b p : Nat → Bool) (listed : Array Bool) (r : Nat) : Bool := (List.range ops.size).all fun j => decide (j = r) || listed.getD j true || (b j || p j) || Region.waitsFor md ops j r
theorem restB_spec {listed : Array Bool} {r : Nat} (h : restB md ops b p listed r = true) : ∀ j oj, ops[j]? = some oj → j ≠ r → listed.getD j true = false → (b j = true ∨ p j = true) ∨ ∃ e ∈ oj.after, Region.binds md e = true ∧ e.on = r := by
  intro j oj hj hne hl
  have htl : j < ops.size := (Array.getElem?_eq_some_iff.1 hj).1
  have h1 := List.all_eq_true.1 h j (List.mem_range.2 htl)
  simp only [Bool.or_eq_true, decide_eq_true_eq] at h1
  rcases h1 with ((h1 | h1) | h1) | h1
  · exact absurd h1 hne
  · rw [hl] at h1; cases h1
  · exact .inl h1
  · obtain ⟨o', ho', e, he, hb, hon⟩ := Region.waitsFor_spec h1
    have : o' = oj := Option.some.inj (ho'.symm.trans hj)
    subst this
    exact .inr ⟨e, he, hb, hon⟩

def setL : List Nat → Array Bool → Array Bool
  | [], L => L
  | i :: is, L => setL is (L.setIfInBounds i true)
def takesB (md : Region.Mode) (ops : Array Oper) (b p : Nat → Bool) : List Nat → Array Bool → Bool
  | [], _ => true
  | r :: rs, L => (Region.ready md ops L).contains r && Region.free md ops L r && restB md ops b p L r && takesB md ops b p rs (L.setIfInBounds r true)
def firstsB (md : Region.Mode) (ops : Array Oper) (b : Nat → Bool) : List Nat → Array Bool → Bool
  | [], _ => true
  | r :: rs, L => (Region.ready md ops L).contains r && Region.free md ops L r && !b r && firstsB md ops b rs (L.setIfInBounds r true)
def pick (l : List Oper) : List Nat → List Oper
  | [] => []
  | i :: is => match l[i]? with
    | some o => o :: pick l is
    | none => pick l is
/-- The walk: what yields in whatever world, what yields where S holds, then the one operation that may come up, and so on. -/
def wpSegs (P : Program) (l : List Oper) (Q : Exit → Act → World → Prop) (S : World → Prop) (b : Nat → Bool) : List (List Nat × List Nat × Nat) → Act → World → Prop
  | [], a, w => Q .normal a w
  | (ws, rs, i) :: ss, a, w => wpQuiet P l.toArray (fun _ => True) (wpQuiet P l.toArray S (fun a' => match l[i]? with
    | some o => o.wp P a' w (fun a1 w1 => (b i = true → S w1) ∧ wpSegs P l Q S b ss a1 w1) Q
    | none => False) (pick l rs)) (pick l ws) a
theorem wpT_reads {l : List Oper} {w : World} {g : Nat} (hs : Region.noSelect l.toArray = true) (hQ : ∀ c a w d v, Q (.panic c) (Act.put a d v) w → Q (.panic c) a w) (hS : S w) :
    ∀ (rs : List Nat) (listed : Array Bool) (a : Act), (∀ r ∈ rs, ∃ o, l[r]? = some o ∧ readOp o = true) → takesB md l.toArray b p rs listed = true →
      wpQuiet P l.toArray S (fun a' => wpAnyT P md l.toArray Q S b p g (setL rs listed) a' w) (pick l rs) a → wpAnyT P md l.toArray Q S b p (rs.length + g) listed a w
  | [], listed, a, _, _, h => by rw [List.length_nil, Nat.zero_add]; exact h
  | r :: rs, listed, a, hr, hB, h => by
    obtain ⟨o, ho, hro⟩ := hr r (by simp)
    have h0 : l.toArray[r]? = some o := by simpa using ho
    simp only [takesB, Bool.and_eq_true] at hB
    obtain ⟨⟨⟨hrd, hf⟩, hrn⟩, hB'⟩ := hB
    simp only [pick, ho] at h
    have hst : qOp P l.toArray S r (wpQuiet P l.toArray S (fun a' => wpAnyT P md l.toArray Q S b p g (setL (r :: rs) listed) a' w) (pick l rs)) a := by unfold qOp; simp only [h0]; exact h
    obtain ⟨v, hy, hK⟩ := yieldsIn_of_qOp h0 hst
    have hyi : YieldsIf P l.toArray S o v a := hy.imp (fun ⟨hw, hq⟩ => ⟨hw, fun w hw' => read_yields hro (hq w hw')⟩) id
    rw [List.length_cons, show rs.length + 1 + g = (rs.length + g) + 1 by omega]
    exact wpAnyT_first h0 (Region.noSelect_spec hs) (fun c a w h => hQ c a w _ _ h) _ _ _ _ (Region.free_spec h0 hf) (restB_spec hrn) (by simpa using hrd) hyi hS (wpT_reads hs hQ hS rs _ _ (fun q hq => hr q (by simp [hq])) hB' hK)
theorem wpT_firsts {l : List Oper} {w : World} {g : Nat} (hs : Region.noSelect l.toArray = true) (hQ : ∀ c a w d v, Q (.panic c) (Act.put a d v) w → Q (.panic c) a w) :
    ∀ (rs : List Nat) (listed : Array Bool) (a : Act), (∀ r ∈ rs, ∃ o, l[r]? = some o ∧ readOp o = true) → firstsB md l.toArray b rs listed = true →
      wpQuiet P l.toArray (fun _ => True) (fun a' => wpAnyT P md l.toArray Q S b p g (setL rs listed) a' w) (pick l rs) a → wpAnyT P md l.toArray Q S b p (rs.length + g) listed a w
  | [], listed, a, _, _, h => by rw [List.length_nil, Nat.zero_add]; exact h
  | r :: rs, listed, a, hr, hB, h => by
    obtain ⟨o, ho, hro⟩ := hr r (by simp)
    have h0 : l.toArray[r]? = some o := by simpa using ho
    simp only [firstsB, Bool.and_eq_true, Bool.not_eq_true'] at hB
    obtain ⟨⟨⟨hrd, hf⟩, hrn⟩, hB'⟩ := hB
    simp only [pick, ho] at h
    have hst : qOp P l.toArray (fun _ => True) r (wpQuiet P l.toArray (fun _ => True) (fun a' => wpAnyT P md l.toArray Q S b p g (setL (r :: rs) listed) a' w) (pick l rs)) a := by unfold qOp; simp only [h0]; exact h
    obtain ⟨v, hy, hK⟩ := yieldsIn_of_qOp h0 hst
    have hyi : YieldsIf P l.toArray (fun _ => True) o v a := hy.imp (fun ⟨hw, hq⟩ => ⟨hw, fun w hw' => read_yields hro (hq w hw')⟩) id
    rw [List.length_cons, show rs.length + 1 + g = (rs.length + g) + 1 by omega]
    exact wpAnyT_firstW h0 hrn (Region.noSelect_spec hs) (fun c a w h => hQ c a w _ _ h) _ _ _ _ (Region.free_spec h0 hf) (by simpa using hrd) hyi (wpT_firsts hs hQ rs _ _ (fun q hq => hr q (by simp [hq])) hB' hK)
/-- The pure reads of a region. -/
def pureB (l : List Oper) (i : Nat) : Bool := match l[i]? with | some o => readOp o | none => false
theorem reads_of {l : List Oper} {rs : List Nat} (h : rs.all (pureB l) = true) : ∀ r ∈ rs, ∃ o, l[r]? = some o ∧ readOp o = true := fun r hr => by
  have h7 := List.all_eq_true.1 h r hr
  unfold pureB at h7
  cases hl : l[r]? with
  | none => rw [hl] at h7; cases h7
  | some o => rw [hl] at h7; exact ⟨o, rfl, h7⟩
/-- A condition on worlds as a family of worlds: the form that the quiet walk reads. -/
theorem family (f : World → Prop) (W0 : World) (h0 : f W0) : ∃ (ι : Type) (ff : ι → World), Nonempty ι ∧ (∀ p, f (ff p)) ∧ ∀ W, f W → ∃ p, W = ff p := ⟨{W // f W}, Subtype.val, ⟨⟨W0, h0⟩⟩, fun p => p.2, fun W h => ⟨⟨W, h⟩, rfl⟩⟩
end
end Go.Proofs.YtnemcnpilngblaaDoor

/- A region that draws its order, its reads taken first: what is known of memory may grow behind each operation that comes up; reads may end it. No program in sight. -/
namespace Go.Proofs.YtnemcnpilngblaaDoor
set_option linter.unusedVariables false
open Go.RowKit

section
variable {P : Program} {ops : Array Oper} {Q : Exit → Act → World → Prop} {md : Region.Mode} {S S' : World → Prop} {b p : Nat → Bool}

theorem wpAnyT_monoS (hSS : ∀ W, S' W → S W) : ∀ (fuel : Nat) (listed : Array Bool) (a : Act) (w : World), wpAnyT P md ops Q S' b p fuel listed a w → wpAnyT P md ops Q S b p fuel listed a w
  | 0, _, _, _, h => h
  | fuel + 1, _, _, _, h => ⟨h.1, fun i hi => wpOp_mono (fun a' w' h' => ⟨⟨fun hb => hSS _ (h'.1.1 hb), h'.1.2⟩, wpAnyT_monoS hSS fuel _ a' w' h'.2⟩) (h.2 i hi)⟩
def segsB2 (md : Region.Mode) (ops : Array Oper) (b p : Nat → Bool) (fw fr : List Nat) : List (List Nat × List Nat × Nat) → Array Bool → Bool
  | [], L => firstsB md ops b fw L && takesB md ops b p fr (setL fw L) && (Region.ready md ops (setL fr (setL fw L))).isEmpty
  | (ws, rs, i) :: ss, L => firstsB md ops b ws L && takesB md ops b p rs (setL ws L) && decide (Region.ready md ops (setL rs (setL ws L)) = [i]) && !p i && segsB2 md ops b p fw fr ss ((setL rs (setL ws L)).setIfInBounds i true)
/-- As wpSegs; behind each operation that comes up a stronger fact may be taken. -/
def wpSegs2 (P : Program) (l : List Oper) (Q : Exit → Act → World → Prop) (b : Nat → Bool) (fw fr : List Nat) : List (List Nat × List Nat × Nat) → (World → Prop) → Act → World → Prop
  | [], S, a, w => wpQuiet P l.toArray (fun _ => True) (wpQuiet P l.toArray S (fun a' => Q .normal a' w) (pick l fr)) (pick l fw) a
  | (ws, rs, i) :: ss, S, a, w => wpQuiet P l.toArray (fun _ => True) (wpQuiet P l.toArray S (fun a' => match l[i]? with
    | some o => o.wp P a' w (fun a1 w1 => ∃ S' : World → Prop, (∀ W, S' W → S W) ∧ (b i = true → S' w1) ∧ wpSegs2 P l Q b fw fr ss S' a1 w1) Q
    | none => False) (pick l rs)) (pick l ws) a
def lenS2 (fw fr : List Nat) : List (List Nat × List Nat × Nat) → Nat
  | [] => fw.length + (fr.length + 0)
  | (ws, rs, _) :: ss => ws.length + (rs.length + (lenS2 fw fr ss + 1))
theorem wpT_segs2 {l : List Oper} {fw fr : List Nat} (hs : Region.noSelect l.toArray = true) (hQ : ∀ c a w d v, Q (.panic c) (Act.put a d v) w → Q (.panic c) a w)
    (hfw : ∀ r ∈ fw, ∃ o, l[r]? = some o ∧ readOp o = true) (hfr : ∀ r ∈ fr, ∃ o, l[r]? = some o ∧ readOp o = true) :
    ∀ (ss : List (List Nat × List Nat × Nat)) (S : World → Prop) (listed : Array Bool) (a : Act) (w : World), (∀ s ∈ ss, (∀ r ∈ s.1, ∃ o, l[r]? = some o ∧ readOp o = true) ∧ (∀ r ∈ s.2.1, ∃ o, l[r]? = some o ∧ readOp o = true) ∧ ∀ o, l[s.2.2]? = some o → o.guard = none) → segsB2 md l.toArray b p fw fr ss listed = true →
      (S w ∨ (fr = [] ∧ ∀ s ∈ ss, s.2.1 = [])) → (∀ (k : Nat) s, ss[k]? = some s → b s.2.2 = false → fr = [] ∧ ∀ s' ∈ ss.drop (k + 1), s'.2.1 = []) → wpSegs2 P l Q b fw fr ss S a w → wpAnyT P md l.toArray Q S b p (lenS2 fw fr ss) listed a w
  | [], S, listed, a, w, _, hB, hSw, _, h => by
    simp only [segsB2, Bool.and_eq_true] at hB
    obtain ⟨⟨hB0, hB1⟩, hB2⟩ := hB
    rw [lenS2]
    refine wpT_firsts hs hQ fw listed a hfw hB0 (wpQuiet_mono (fun a0 h0 => ?_) h)
    have key : ∀ a', Q .normal a' w → wpAnyT P md l.toArray Q S b p 0 (setL fr (setL fw listed)) a' w := fun a' ha => ⟨by simpa using hB2, ha⟩
    rcases hSw with hSw | ⟨hSw, _⟩
    · exact wpT_reads hs hQ hSw fr _ a0 hfr hB1 (wpQuiet_mono key h0)
    · subst hSw
      exact key a0 h0
  | (ws, rs, i) :: ss, S, listed, a, w, hg, hB, hSw, ho, h => by
    simp only [segsB2, Bool.and_eq_true, decide_eq_true_eq, Bool.not_eq_true'] at hB
    obtain ⟨⟨⟨⟨hB0, hB1⟩, hB2⟩, hpi⟩, hB3⟩ := hB
    have key : ∀ a', (match l[i]? with
        | some o => o.wp P a' w (fun a1 w1 => ∃ S' : World → Prop, (∀ W, S' W → S W) ∧ (b i = true → S' w1) ∧ wpSegs2 P l Q b fw fr ss S' a1 w1) Q
        | none => False) → wpAnyT P md l.toArray Q S b p (lenS2 fw fr ss + 1) (setL rs (setL ws listed)) a' w := by
      intro a' ha
      refine ⟨fun h0 => (by rw [hB2] at h0; cases h0), fun j hj => ?_⟩
      rw [hB2] at hj
      obtain rfl : j = i := by simpa using hj
      cases hl : l[j]? with
      | none => rw [hl] at ha; exact ha.elim
      | some o =>
        rw [hl] at ha
        have h0 : l.toArray[j]? = some o := by simpa using hl
        have hgn := (hg (ws, rs, j) (by simp)).2.2 o hl
        unfold wpOp
        simp only [h0]
        have hw1 : Region.wanted o (yielded l.toArray a'.tmps) = true := by simp [Region.wanted, hgn]
        rw [if_pos hw1]
        refine .inl (Oper.wp_mono (fun a1 w1 hh => ?_) ha)
        obtain ⟨S', hSS, hS1, hh⟩ := hh
        refine ⟨⟨fun hb => hSS _ (hS1 hb), fun h => by rw [hpi] at h; cases h⟩, wpAnyT_monoS hSS _ _ _ _ ?_⟩
        refine wpT_segs2 hs hQ hfw hfr ss S' _ a1 w1 (fun s hs => hg s (by simp [hs])) hB3 ?_ (fun k s hk hn => ho (k + 1) s (by simpa using hk) hn) hh
        cases hbj : b j with
        | true => exact .inl (hS1 hbj)
        | false => exact .inr ⟨(ho 0 (ws, rs, j) (by simp) hbj).1, fun s hs => (ho 0 (ws, rs, j) (by simp) hbj).2 s (by simpa using hs)⟩
    rw [lenS2]
    refine wpT_firsts hs hQ ws listed a (hg (ws, rs, i) (by simp)).1 hB0 (wpQuiet_mono (fun a0 h0 => ?_) h)
    rcases hSw with hSw | hSw
    · exact wpT_reads hs hQ hSw rs _ a0 (hg (ws, rs, i) (by simp)).2.1 hB1 (wpQuiet_mono key h0)
    · have hrs : rs = [] := hSw.2 (ws, rs, i) (by simp)
      subst hrs
      have h2 := key a0 h0
      rw [List.length_nil, Nat.zero_add]
      exact h2
/-- One segment at a time, what follows behind a variable. -/
theorem wpSegs2_step {l : List Oper} {fw fr ws rs : List Nat} {i : Nat} {ss : List (List Nat × List Nat × Nat)} {a : Act} {w : World} {o : Oper} {wl rl : List Oper} (hw : pick l ws = wl) (hp : pick l rs = rl) (ho : l[i]? = some o)
    (h : ∀ K : Act → World → Prop, (∀ (S' : World → Prop) a1 w1, (∀ W, S' W → S W) → S' w1 → wpSegs2 P l Q b fw fr ss S' a1 w1 → K a1 w1) → ∀ K2 : Act → Prop, (∀ a0, wpQuiet P l.toArray S (fun a' => o.wp P a' w (fun a1 w1 => K a1 w1) Q) rl a0 → K2 a0) → wpQuiet P l.toArray (fun _ => True) K2 wl a) : wpSegs2 P l Q b fw fr ((ws, rs, i) :: ss) S a w := by
  subst hp; subst hw
  simp only [wpSegs2, ho]
  exact h (fun a1 w1 => ∃ S' : World → Prop, (∀ W, S' W → S W) ∧ (b i = true → S' w1) ∧ wpSegs2 P l Q b fw fr ss S' a1 w1) (fun S' _ _ h1 h2 h3 => ⟨S', h1, fun _ => h2, h3⟩) _ (fun _ h => h)
/-- The last operation that comes up: what holds of memory is not asked. -/
theorem wpSegs2_last {l : List Oper} {fw fr ws rs : List Nat} {i : Nat} {ss : List (List Nat × List Nat × Nat)} {a : Act} {w : World} {o : Oper} {wl rl : List Oper} (hw : pick l ws = wl) (hp : pick l rs = rl) (ho : l[i]? = some o) (hb : b i = false)
    (h : ∀ K : Act → World → Prop, (∀ a1 w1, wpSegs2 P l Q b fw fr ss S a1 w1 → K a1 w1) → ∀ K2 : Act → Prop, (∀ a0, wpQuiet P l.toArray S (fun a' => o.wp P a' w (fun a1 w1 => K a1 w1) Q) rl a0 → K2 a0) → wpQuiet P l.toArray (fun _ => True) K2 wl a) : wpSegs2 P l Q b fw fr ((ws, rs, i) :: ss) S a w := by
  subst hp; subst hw
  simp only [wpSegs2, ho]
  exact h (fun a1 w1 => ∃ S' : World → Prop, (∀ W, S' W → S W) ∧ (b i = true → S' w1) ∧ wpSegs2 P l Q b fw fr ss S' a1 w1) (fun _ _ h3 => ⟨S, fun _ h => h, fun h => (by rw [hb] at h; cases h), h3⟩) _ (fun _ h => h)
/-- The reads that end the region. -/
theorem wpSegs2_fin {l : List Oper} {fw fr : List Nat} {a : Act} {w : World} {wl rl : List Oper} (hw : pick l fw = wl) (hp : pick l fr = rl)
    (h : ∀ K2 : Act → Prop, (∀ a0, wpQuiet P l.toArray S (fun a' => Q .normal a' w) rl a0 → K2 a0) → wpQuiet P l.toArray (fun _ => True) K2 wl a) : wpSegs2 P l Q b fw fr [] S a w := by
  subst hp; subst hw
  exact h _ (fun _ h => h)
theorem wpSegs2_end {l : List Oper} {a : Act} {w : World} (h : Q .normal a w) : wpSegs2 P l Q b [] [] [] S a w := h
/-- What the kernel looks at. -/
def segsOk2 (l : List Oper) (bs fw fr : List Nat) (ss : List (List Nat × List Nat × Nat)) : Bool :=
  Region.noSelect l.toArray && segsB2 .any l.toArray bs.contains (pureB l) fw fr ss (Array.replicate l.toArray.size false) && decide (lenS2 fw fr ss = l.toArray.size)
    && (ss.all fun s => s.1.all (pureB l) && s.2.1.all (pureB l) && (match l[s.2.2]? with | some o => o.guard.isNone | none => true))
    && ((List.range ss.length).all fun k => match ss[k]? with | some s => bs.contains s.2.2 || (fr.isEmpty && (ss.drop (k + 1)).all fun s' => s'.2.1.isEmpty) | none => true)
    && fw.all (pureB l) && fr.all (pureB l)
theorem wp_region_segs2 {id : Nat} {a : Act} {w : World} {l : List Oper} (bs fw fr : List Nat) (ss : List (List Nat × List Nat × Nat)) (hm : P.follows .mixedOrders = true) (hB : segsOk2 l bs fw fr ss = true) (hQ : ∀ c a w d v, Q (.panic c) (Act.put a d v) w → Q (.panic c) a w) (S : World → Prop) (hS : S w.drew)
    (h : wpSegs2 P l Q bs.contains fw fr ss S a w.drew) : (Code.region id l.toArray true).wp P Q a w := by
  simp only [segsOk2, Bool.and_eq_true, decide_eq_true_eq] at hB
  obtain ⟨⟨⟨⟨⟨⟨h1, h3⟩, h4⟩, h6⟩, h7⟩, h8⟩, h9⟩ := hB
  refine wp_region_any hm (wpAny_of_T (S := S) (b := bs.contains) (p := pureB l) _ _ _ _ ?_)
  refine Eq.mp (congrArg (fun k => wpAnyT P .any l.toArray Q S bs.contains (pureB l) k (Array.replicate l.toArray.size false) a w.drew) h4) ?_
  refine wpT_segs2 h1 hQ (reads_of h8) (reads_of h9) ss S _ a w.drew (fun s hs => ?_) h3 (.inl hS) (fun k s hk hn => ?_) h
  · have := List.all_eq_true.1 h6 s hs
    simp only [Bool.and_eq_true] at this
    refine ⟨reads_of this.1.1, reads_of this.1.2, fun o ho => ?_⟩
    have h8 := this.2
    rw [ho] at h8
    simpa using h8
  · have hkl : k < ss.length := (List.getElem?_eq_some_iff.1 hk).1
    have h8 := List.all_eq_true.1 h7 k (List.mem_range.2 hkl)
    rw [hk] at h8
    simp only [Bool.or_eq_true, Bool.and_eq_true] at h8
    rcases h8 with h8 | ⟨h8, h9⟩
    · rw [hn] at h8; cases h8
    · refine ⟨by simpa using h8, fun s' hs' => ?_⟩
      have := List.all_eq_true.1 h9 s' hs'
      simpa using this
/-- The worlds that have grown from one on, as a family: the form that the quiet walk reads. -/
theorem growFam (w : World) : ∃ (ι : Type) (ff : ι → World), Nonempty ι ∧ (∃ p, w = ff p) ∧ (∀ p, Below w.heap.size w (ff p)) ∧ ∀ W, Below w.heap.size w W → ∃ p, W = ff p :=
  ⟨{W // Below w.heap.size w W}, Subtype.val, ⟨⟨w, Below.refl _ w⟩⟩, ⟨⟨w, Below.refl _ w⟩, rfl⟩, fun p => p.2, fun W h => ⟨⟨W, h⟩, rfl⟩⟩
end
end Go.Proofs.YtnemcnpilngblaaDoor

/- As QSegs2, the operations that come up one at a time may be guarded. No program in sight. -/
namespace Go.Proofs.YtnemcnpilngblaaDoor
set_option linter.unusedVariables false
open Go.RowKit

section
variable {P : Program} {ops : Array Oper} {Q : Exit → Act → World → Prop} {md : Region.Mode} {S S' : World → Prop} {b p : Nat → Bool}
end
end Go.Proofs.YtnemcnpilngblaaDoor

/- A region that draws its order, inside a round's fence: by the walk outside of any fence. No program in sight. -/
namespace Go.Proofs.YtnemcnpilngblaaDoor
set_option linter.unusedVariables false
open Go.RowKit

def onlyN (K : Act → World → Prop) : Exit → Act → World → Prop
  | .normal, a, w => K a w
  | _, _, _ => False

theorem rowsIn_any {n : Nat} {P : Program} {row : String} {args : Array Value} {w : World} {R : Value → World → Prop} (l : Nat) (h : Rows P row args w R) : RowsIn (Fence.wide.inRound l) n P row args w R :=
  fun c cs _ => let ⟨v, w', r, s⟩ := h c cs; ⟨v, w', r, stepsIn_wide.2 s⟩

theorem operIn {n : Nat} {P : Program} {o : Oper} {a : Act} {w : World} {K : Act → World → Prop} {Q : Exit → Act → World → Prop} {K' : Act → World → Prop} (l : Nat) (hd : ∀ c, o.op ≠ .defer c)
    (h : o.wp P a w K (onlyN K')) : o.wpIn (Fence.wide.inRound l) n P a w K Q := by
  refine ⟨fun _ _ => trivial, ?_⟩
  rw [Oper.semAt_plain _ _ _ hd]
  unfold Oper.wp at h
  generalize (execOp a.eval o).run P w = r at h ⊢
  cases r with
  | ok x w' =>
    cases x <;> simp only [Oper.upon, Oper.uponIn] at h ⊢
    case value => exact h
    case skip => exact h
    case defer => exact h
    case enter =>
      refine ⟨(fun hh => by cases hh), CallsIn.inRound l (callsIn_wide.2 (h.mono fun e w2 he => ?_))⟩
      cases e
      case returned => exact he
      case panicked => exact he.elim
      case outgrown => obtain ⟨_, _, hx⟩ := he; exact hx.elim
    case row => exact ⟨(fun hh => by cases hh), rowsIn_any l h⟩
  | halt x w' =>
    cases x <;> simp only [Oper.upon, Oper.uponIn] at h ⊢
    exact h.elim

theorem wpAnyIn_of_wpAny {n : Nat} {P : Program} {md : Region.Mode} {ops : Array Oper} {Q : Exit → Act → World → Prop} (l : Nat) (hd : ∀ (i : Nat) o, ops[i]? = some o → ∀ c, o.op ≠ .defer c) :
    ∀ (fuel : Nat) (listed : Array Bool) (a : Act) (w : World), wpAny P md ops (onlyN (Q .normal)) fuel listed a w → wpAnyIn (Fence.wide.inRound l) n P md ops Q fuel listed a w
  | 0, _, _, _, h => h
  | fuel + 1, listed, a, w, h => by
    refine ⟨h.1, fun i hi => ?_⟩
    have h2 := h.2 i hi
    unfold wpOp at h2
    unfold wpOpIn
    cases ho : ops[i]? with
    | none =>
      rw [ho] at h2
      exact wpAnyIn_of_wpAny l hd fuel _ _ _ h2
    | some o =>
      rw [ho] at h2
      dsimp only at h2 ⊢
      split
      · rename_i hw
        rw [if_pos hw] at h2
        rcases h2 with h2 | ⟨_, _, _, hx⟩
        · exact operIn (K' := Q .normal) l (hd i o ho) (Oper.wp_mono (fun a w => wpAnyIn_of_wpAny l hd fuel _ a w) h2)
        · exact hx.elim
      · rename_i hw
        rw [if_neg hw] at h2
        exact ⟨fun _ _ => trivial, wpAnyIn_of_wpAny l hd fuel _ _ _ h2⟩

theorem noDefer {ops : Array Oper} (h : ops.all (fun o => match o.op with | .defer _ => false | _ => true) = true) : ∀ (i : Nat) o, ops[i]? = some o → ∀ c, o.op ≠ .defer c := by
  intro i o ho c hc
  have := (Array.all_eq_true.1 h) i (Array.getElem?_eq_some_iff.1 ho).1
  rw [(Array.getElem?_eq_some_iff.1 ho).2, hc] at this
  cases this
theorem wpIn_region_out {n : Nat} {P : Program} {ops : Array Oper} {Q : Exit → Act → World → Prop} {id : Nat} {a : Act} {w : World} (l : Nat) (hm : P.follows .mixedOrders = true)
    (hd : ops.all (fun o => match o.op with | .defer _ => false | _ => true) = true)
    (h : wpAny P .any ops (onlyN (Q .normal)) ops.size (Array.replicate ops.size false) a w.drew) : (Code.region id ops true).wpIn (Fence.wide.inRound l) n P Q a w :=
  wpIn_region_any hm (wpAnyIn_of_wpAny l (noDefer hd) _ _ _ _ h)

end Go.Proofs.YtnemcnpilngblaaDoor

/- Data that lies in memory: rows of elements, also elements that hold slices of their own. No program in sight. -/
namespace Go.Proofs.YtnemcnpilngblaaDoor
set_option linter.unusedVariables false
open Go.RowKit

/-- How a kind of data lies: so many cells; what they hold, and what lies behind them in blocks of F. -/
structure Rep (α : Type) where
  n : Nat
  rel : World → (Nat → Prop) → α → List Value → Prop
  len : ∀ {w F x cs}, rel w F x cs → cs.length = n
  keep : ∀ {w w' : World} {F : Nat → Prop} {x cs}, rel w F x cs → (∀ b, F b → w'.heap[b]? = w.heap[b]?) → rel w' F x cs
  more : ∀ {w F G x cs}, rel w F x cs → (∀ b, F b → G b) → rel w G x cs

/-- Data of cells alone. -/
def Rep.flat {α : Type} (n : Nat) (enc : α → List Value) (h : ∀ x, (enc x).length = n) : Rep α :=
  ⟨n, fun _ _ x cs => cs = enc x, fun e => by subst e; exact h _, fun e _ => e, fun e _ => e⟩
def strR : Rep ByteArray := Rep.flat 1 (fun s => [.string s]) (fun _ => rfl)
def intR : Rep Int := Rep.flat 1 (fun x => [.int .i64 x]) (fun _ => rfl)

/-- The cells of a row of elements. -/
def Lay {α : Type} (R : Rep α) (w : World) (F : Nat → Prop) (l : List α) (cs : List Value) : Prop :=
  cs.length = l.length * R.n ∧ ∀ (k : Nat) (x : α), l[k]? = some x → R.rel w F x ((cs.drop (k * R.n)).take R.n)

section
variable {α : Type} {R : Rep α} {w w' : World} {F G : Nat → Prop} {l : List α} {cs : List Value}
theorem Lay.nil_ : Lay R w F [] [] := ⟨by simp, fun k x h => by simp at h⟩
theorem Lay.keep (h : Lay R w F l cs) (hk : ∀ b, F b → w'.heap[b]? = w.heap[b]?) : Lay R w' F l cs := ⟨h.1, fun k x hx => R.keep (h.2 k x hx) hk⟩
theorem Lay.more (h : Lay R w F l cs) (hk : ∀ b, F b → G b) : Lay R w G l cs := ⟨h.1, fun k x hx => R.more (h.2 k x hx) hk⟩
theorem Lay.snoc {x : α} {a : List Value} (h : Lay R w F l cs) (ha : R.rel w F x a) : Lay R w F (l ++ [x]) (cs ++ a) := by
  have hl := R.len ha
  refine ⟨by simp [h.1, hl, Nat.add_mul], fun k y hy => ?_⟩
  by_cases hk : k < l.length
  · rw [List.getElem?_append_left hk] at hy
    have h2 := h.2 k y hy
    have h3 : (k + 1) * R.n ≤ cs.length := by rw [h.1]; exact Nat.mul_le_mul_right _ hk
    rw [Nat.add_mul, Nat.one_mul] at h3
    rw [List.drop_append_of_le_length (by omega), List.take_append_of_le_length (by simp; omega)]
    exact h2
  · have hk2 : k = l.length := by
      have := (List.getElem?_eq_some_iff.1 hy).1
      simp at this; omega
    subst hk2
    rw [List.getElem?_append_right (Nat.le_refl _)] at hy
    simp at hy
    subst hy
    rw [← h.1, List.drop_left' rfl, List.take_of_length_le (by omega)]
    exact ha
theorem Lay.one {x : α} {a : List Value} (ha : R.rel w F x a) : Lay R w F [x] a := by simpa using Lay.nil_.snoc ha
theorem Lay.drop (h : Lay R w F l cs) (k : Nat) : Lay R w F (l.drop k) (cs.drop (k * R.n)) := by
  refine ⟨by simp [h.1, Nat.sub_mul], fun j x hx => ?_⟩
  rw [List.getElem?_drop] at hx
  have := h.2 _ x hx
  rw [List.drop_drop, ← Nat.add_mul]
  exact this
theorem Lay.take (h : Lay R w F l cs) (k : Nat) : Lay R w F (l.take k) (cs.take (k * R.n)) := by
  refine ⟨?_, fun j x hx => ?_⟩
  · rw [List.length_take, List.length_take, h.1]
    rcases Nat.le_total k l.length with hk | hk
    · rw [Nat.min_eq_left hk, Nat.min_eq_left (Nat.mul_le_mul_right _ hk)]
    · rw [Nat.min_eq_right hk, Nat.min_eq_right (Nat.mul_le_mul_right _ hk)]
  · have hj : j < k := by
      have := (List.getElem?_eq_some_iff.1 hx).1
      simp at this; omega
    rw [List.getElem?_take_of_lt hj] at hx
    have h2 := h.2 j x hx
    have h3 : (j + 1) * R.n ≤ k * R.n := Nat.mul_le_mul_right _ hj
    rw [Nat.add_mul, Nat.one_mul] at h3
    rw [List.drop_take, List.take_take, Nat.min_eq_left (by omega)]
    exact h2
end

/-- A slice value that reads as a list. -/
def Sli {α : Type} (R : Rep α) (w : World) (F : Nat → Prop) (l : List α) (v : Value) : Prop :=
  ∃ A c, v = .slice A l.length c ∧ l.length ≤ c ∧ c ≤ 9223372036854775807 ∧ (0 < l.length → ∃ b off cs, A = some ⟨b, off, none⟩ ∧ F b ∧ Lay R w F l cs ∧ ∀ j u, cs[j]? = some u → w.cell? ⟨b, off + j, none⟩ = some u)

section
variable {α : Type} {R : Rep α} {w w' : World} {F G : Nat → Prop} {l : List α} {v : Value}
theorem cell_of_heap {b o : Nat} (h : w'.heap[b]? = w.heap[b]?) : w'.cell? ⟨b, o, none⟩ = w.cell? ⟨b, o, none⟩ := World.cell?_of_block (a := ⟨b, o, none⟩) h
theorem Sli.keep (h : Sli R w F l v) (hk : ∀ b, F b → w'.heap[b]? = w.heap[b]?) : Sli R w' F l v := by
  obtain ⟨A, c, e, h1, h2, h3⟩ := h
  refine ⟨A, c, e, h1, h2, fun h0 => ?_⟩
  obtain ⟨b, off, cs, ea, hb, hl, hc⟩ := h3 h0
  exact ⟨b, off, cs, ea, hb, hl.keep hk, fun j u hj => (cell_of_heap (hk b hb)).trans (hc j u hj)⟩
theorem Sli.more (h : Sli R w F l v) (hk : ∀ b, F b → G b) : Sli R w G l v := by
  obtain ⟨A, c, e, h1, h2, h3⟩ := h
  refine ⟨A, c, e, h1, h2, fun h0 => ?_⟩
  obtain ⟨b, off, cs, ea, hb, hl, hc⟩ := h3 h0
  exact ⟨b, off, cs, ea, hk b hb, hl.more hk, hc⟩
theorem Sli.nil_ : Sli R w F [] (.slice none 0 0) := ⟨none, 0, rfl, Nat.le_refl _, by omega, fun h => absurd h (by simp)⟩
theorem Sli.below {B : Nat} (h : Sli R w F l v) (hb : Below B w w') (hF : ∀ b, F b → b < B) : Sli R w' F l v := h.keep fun b hf => hb.block b (hF b hf)
theorem Sli.alloc (h : Sli R w F l v) (o : Obj) (hF : ∀ b, F b → b < w.heap.size) : Sli R (w.alloc o) F l v := h.keep fun b hf => Below.heap_alloc w o b (hF b hf)
theorem Sli.drew (h : Sli R w F l v) : Sli R w.drew F l v := h.keep fun _ _ => rfl
theorem Sli.drewN (h : Sli R w F l v) (n : Nat) : Sli R (w.drewN n) F l v := h.keep fun _ _ => rfl
theorem Sli.setCell (h : Sli R w F l v) {p : Addr} (u : Value) (hF : ¬ F p.block) : Sli R (w.setCell p u) F l v :=
  h.keep fun b hf => Below.heap_setCell w p u b (fun e => hF (by rw [← e]; exact hf))
theorem Sli.grown {g : Nat} (h : Sli R w F l v) (hg : w.grownBy w' (some g)) (hF : ∀ b, F b → b < w.heap.size ∧ b ≠ g) : Sli R w' F l v :=
  h.keep fun b hf => hg.block b (hF b hf).1 (by simpa using (hF b hf).2)
/-- Its form, and element k. -/
theorem Sli.form (h : Sli R w F l v) : ∃ A c, v = .slice A l.length c ∧ l.length ≤ c ∧ c ≤ 9223372036854775807 := by
  obtain ⟨A, c, e, h1, h2, _⟩ := h; exact ⟨A, c, e, h1, h2⟩
theorem Sli.at_ {A : Option Addr} {n c : Nat} (h : Sli R w F l (.slice A n c)) (k : Nat) (hk : k < l.length) :
    ∃ b off a, A = some ⟨b, off, none⟩ ∧ F b ∧ R.rel w F l[k] a ∧ ∀ j u, a[j]? = some u → w.cell? ⟨b, off + k * R.n + j, none⟩ = some u := by
  obtain ⟨A', c', e, h1, h2, h3⟩ := h
  injection e with e1 e2 e3
  subst e1
  obtain ⟨b, off, cs, ea, hb, hl, hc⟩ := h3 (by omega)
  refine ⟨b, off, _, ea, hb, hl.2 k _ (List.getElem?_eq_getElem hk), fun j u hj => ?_⟩
  rw [List.getElem?_take] at hj
  split at hj
  · rw [List.getElem?_drop] at hj
    rw [Nat.add_assoc]; exact hc _ u hj
  · cases hj
/-- A slice that a call of one's own has filled. -/
theorem Sli.own {base e n : Nat} {xs : List Value} (h : w.ownsRow base e R.n v n xs) (hl : Lay R w F l xs) (hn : n = l.length) (hc : ∀ b c, v = .slice (some ⟨b, 0, none⟩) n c → F b) : Sli R w F l v := by
  subst hn
  rcases h.2 with ⟨rfl, h0⟩ | ⟨g, cap, cur, rfl, hb, hg, h1, h2, h3, h4⟩
  · obtain rfl : l = [] := List.length_eq_zero_iff.1 h0
    exact Sli.nil_
  · have hf := hc g cap rfl
    refine ⟨_, cap, rfl, h1, by unfold maxLen at h2; omega, fun _ => ⟨g, 0, xs, rfl, hf, hl, fun j u hj => ?_⟩⟩
    rw [Nat.zero_add]
    simp only [World.cell?, hg]
    rw [← h4] at hj
    rw [List.getElem?_take] at hj
    split at hj
    · simpa using hj
    · cases hj
/-- A row that has just been laid. -/
theorem Sli.new {cs : List Value} (T : TypeId) (c : Nat) (hl : Lay R (w.alloc (.cells cs.toArray T)) F l cs) (hF : F w.heap.size) (h1 : l.length ≤ c) (h2 : c ≤ 9223372036854775807) : Sli R (w.alloc (.cells cs.toArray T)) F l (.slice (some ⟨w.heap.size, 0, none⟩) l.length c) := by
  refine ⟨_, c, rfl, h1, h2, fun _ => ⟨_, 0, cs, rfl, hF, hl, fun j u hj => ?_⟩⟩
  rw [Nat.zero_add]
  have hg : (w.alloc (.cells cs.toArray T)).heap[w.heap.size]? = some (.cells cs.toArray T (0, 0)) := heap_alloc_new w _
  simp only [World.cell?, hg]
  simpa using hj
end

/-- Slices as elements. -/
def Rep.sli {α : Type} (R : Rep α) : Rep (List α) :=
  ⟨1, fun w F l cs => ∃ v, cs = [v] ∧ Sli R w F l v, fun h => by obtain ⟨v, rfl, _⟩ := h; rfl, fun h hk => by obtain ⟨v, e, h⟩ := h; exact ⟨v, e, h.keep hk⟩, fun h hk => by obtain ⟨v, e, h⟩ := h; exact ⟨v, e, h.more hk⟩⟩
end Go.Proofs.YtnemcnpilngblaaDoor

/- Files, manifests and copies, in plain words. No program in sight. -/
namespace Go.Proofs.YtnemcnpilngblaaDoor
set_option linter.unusedVariables false
open Go.RowKit

structure Copied where
  name : ByteArray
  size : Int
  sum : ByteArray
theorem Copied.ext_iff' {a b : Copied} : a = b ↔ a.name = b.name ∧ a.size = b.size ∧ a.sum = b.sum := by
  constructor
  · rintro rfl; exact ⟨rfl, rfl, rfl⟩
  · rintro ⟨h1, h2, h3⟩; cases a; cases b; simp at h1 h2 h3; subst h1; subst h2; subst h3; rfl
def Copied.cells (x : Copied) : List Value := [.string x.name, .int .i64 x.size, .string x.sum]
def Copied.val (x : Copied) : Value := .agg #[.string x.name, .int .i64 x.size, .string x.sum]
def Copied.eqB (a b : Copied) : Bool := decide (a.name = b.name) && decide (a.size = b.size) && decide (a.sum = b.sum)
theorem Copied.eqB_iff {a b : Copied} : a.eqB b = true ↔ a = b := by rw [Copied.ext_iff']; simp [Copied.eqB, and_assoc]

end Go.Proofs.YtnemcnpilngblaaDoor

/- Slices that a call of one's own fills by append, with elements that may hold slices of their own. -/
namespace Go.Proofs.YtnemcnpilngblaaDoor
set_option linter.unusedVariables false
open Go.RowKit

/-- What lies from block lo on, but for one block. -/
def From (w : World) (lo : Nat) (own : Option Nat) (b : Nat) : Prop := lo ≤ b ∧ b < w.heap.size ∧ some b ≠ own
/-- The value v owns the elements l, in a row from block base on; what they hold lies from block lo on, apart from that row. -/
def Own {α : Type} (R : Rep α) (w : World) (base lo : Nat) (e : TypeId) (l : List α) (v : Value) : Prop :=
  ∃ xs, w.ownsRow base e R.n v l.length xs ∧ Lay R w (From w lo v.ownBlock) l xs

section
variable {α : Type} {R : Rep α} {w w' w1 : World} {base lo : Nat} {e : TypeId} {l : List α} {v : Value}
theorem Own.nil_ : Own R w base lo e [] (.slice none 0 0) := ⟨[], World.ownsRow_nil w base e R.n, Lay.nil_⟩
theorem Own.form (h : Own R w base lo e l v) : (v = .slice none 0 0 ∧ l = []) ∨ ∃ g cap, v = .slice (some ⟨g, 0, none⟩) l.length cap ∧ base ≤ g ∧ g < w.heap.size ∧ l.length ≤ cap ∧ cap ≤ 9223372036854775807 := by
  obtain ⟨xs, ho, _⟩ := h
  rcases ho.2 with ⟨hv, h0⟩ | ⟨g, cap, cur, hv, hb, hg, hc, hm, _⟩
  · exact .inl ⟨hv, List.length_eq_zero_iff.1 h0⟩
  · exact .inr ⟨g, cap, hv, hb, heap_lt' hg, hc, by unfold maxLen at hm; omega⟩
where heap_lt' {w : World} {b : Nat} {o : Obj} (h : w.heap[b]? = some o) : b < w.heap.size := (Array.getElem?_eq_some_iff.1 h).1
theorem Own.block (h : Own R w base lo e l v) (g : Nat) (hg : v.ownBlock = some g) : base ≤ g ∧ g < w.heap.size := by
  obtain ⟨xs, ho, _⟩ := h
  exact ho.lt g hg
/-- It stays what it is where its row and what its elements hold stay. -/
theorem Own.keep (h : Own R w base lo e l v) (hs : w.heap.size ≤ w'.heap.size) (hk : ∀ b, (lo ≤ b ∨ v.ownBlock = some b) → b < w.heap.size → w'.heap[b]? = w.heap[b]?) : Own R w' base lo e l v := by
  obtain ⟨xs, ho, hl⟩ := h
  refine ⟨xs, ⟨ho.1, ?_⟩, (hl.keep fun b hb => hk b (.inl hb.1) hb.2.1).more fun b hb => ⟨hb.1, Nat.lt_of_lt_of_le hb.2.1 hs, hb.2.2⟩⟩
  rcases ho.2 with hn | ⟨g, cap, cur, rfl, hb, hg, rest⟩
  · exact .inl hn
  · exact .inr ⟨g, cap, cur, rfl, hb, by rw [hk g (.inr rfl) (Array.getElem?_eq_some_iff.1 hg).1]; exact hg, rest⟩
theorem Own.alloc (h : Own R w base lo e l v) (o : Obj) : Own R (w.alloc o) base lo e l v := h.keep (by simp) fun b _ hb => Below.heap_alloc w o b hb
theorem Own.drew (h : Own R w base lo e l v) : Own R w.drew base lo e l v := h.keep (Nat.le_refl _) fun _ _ _ => rfl
theorem Own.drewN (h : Own R w base lo e l v) (n : Nat) : Own R (w.drewN n) base lo e l v := h.keep (Nat.le_refl _) fun _ _ _ => rfl
theorem Own.below (h : Own R w base lo e l v) (hb : Below w.heap.size w w') : Own R w' base lo e l v := h.keep hb.size fun b _ hlt => hb.block b hlt
theorem Own.setCell (h : Own R w base lo e l v) {p : Addr} (u : Value) (h1 : p.block < lo) (h2 : v.ownBlock ≠ some p.block) : Own R (w.setCell p u) base lo e l v :=
  h.keep (by simp [World.setCell]) fun b hb _ => Below.heap_setCell w p u b (fun e => by
    subst e
    rcases hb with hb | hb
    · omega
    · exact h2 hb)
/-- Another row grows, or a stream turns. -/
theorem Own.grown {row : Option Nat} (h : Own R w base lo e l v) (hg : w.grownBy w' row) (h1 : ∀ k, row = some k → k < lo) (h2 : v.ownBlock = none ∨ v.ownBlock ≠ row) : Own R w' base lo e l v :=
  h.keep hg.size fun b hb hlt => hg.block b hlt (fun er => by
    rcases hb with hb | hb
    · have := h1 b er.symm; omega
    · rcases h2 with h2 | h2
      · rw [h2] at hb; cases hb
      · exact h2 (by rw [hb, er]))
/-- What it reads as. -/
theorem Own.sli {F : Nat → Prop} (h : Own R w base lo e l v) (hF : ∀ b, lo ≤ b → b < w.heap.size → F b) (hB : ∀ g, v.ownBlock = some g → F g) : Sli R w F l v := by
  obtain ⟨xs, ho, hl⟩ := h
  exact Sli.own ho (hl.more fun b hb => hF b hb.1 hb.2.1) rfl (fun b c hv => hB b (by rw [hv]; rfl))
/-- One element more has been appended. -/
theorem Own.push {row : List Value} {xs cs : List Value} {v' : Value} {g H : Nat} (hl : Lay R w (From w lo v.ownBlock) l xs) {y : α} (hy : R.rel w (From w lo v.ownBlock) y cs)
    (ho : w1.ownsRow base e R.n v' (l.length + 1) (xs ++ cs)) (hg : w.grownBy w1 v.ownBlock) (hv' : v'.ownBlock = some g) (hat : v.ownBlock = some g ∨ (g = H ∧ w.heap.size ≤ H)) : Own R w1 base lo e (l ++ [y]) v' := by
  have hF : ∀ b, From w lo v.ownBlock b → From w1 lo v'.ownBlock b := fun b hb => ⟨hb.1, Nat.lt_of_lt_of_le hb.2.1 hg.size, by
    rw [hv']
    rcases hat with h | ⟨h, h2⟩
    · rw [← h]; exact hb.2.2
    · intro e; injection e with e; have := hb.2.1; omega⟩
  have hk : ∀ b, From w lo v.ownBlock b → w1.heap[b]? = w.heap[b]? := fun b hb => hg.block b hb.2.1 hb.2.2
  exact ⟨_, by simpa using ho, ((hl.snoc hy).keep hk).more hF⟩
end
theorem oneC {cs : List Value} (h : cs.all (fun u => match u with | .agg _ | .tuple _ => false | _ => true) = true) : ∀ u ∈ cs, u.oneCell' = true := by
  intro u hu
  have := List.all_eq_true.1 h u hu
  cases u <;> first | rfl | cases this

end Go.Proofs.YtnemcnpilngblaaDoor

/- Append of one element that lies in a block of its own. No program in sight. -/
namespace Go.Proofs.YtnemcnpilngblaaDoor
set_option linter.unusedVariables false
open Go.RowKit

/-- 'append(out, y)' at a step of a region that draws its order: y lies in a block of its own. -/
theorem step_push {P : Program} {α : Type} {R : Rep α} {ops : Array Oper} {o : Oper} {a : Act} {K : Act → World → Prop} {Q : Exit → Act → World → Prop} {E : Prop} (hgd : o.guard = none) (s x : Operand) (t : TypeId)
    (ho : o.op = .call { callee := .builtin .append, args := #[s, x], argTypes := #[t, t] })
    (base lo : Nat) (e : TypeId) (i : TypeInfo) (z : Value) (bytes : Nat) (ht : P.underlying t = some (.slice e)) (hi : P.info? e = some i) (hz : i.zero = some z)
    (hsize : i.size = R.n) (hby : i.bytes = bytes) (hzs : z.cells.size = R.n) (hsz : 0 < R.n)
    (W : World) (v : Value) (l : List α) (hs : a.eval s = v) (hown : Own R W base lo e l v) (y : α) (cs : List Value) (hy : R.rel W (From W lo v.ownBlock) y cs) (h1 : ∀ u ∈ cs, u.oneCell' = true)
    (B : Nat) (T : TypeId) (c : Nat) (hB : W.heap[B]? = some (.cells cs.toArray T (0, 0))) (hx : a.eval x = .slice (some ⟨B, 0, none⟩) 1 c) (h63 : l.length + 1 ≤ maxLen) (hbytes : (l.length + 1) * bytes ≤ 140737488355328) (hbase : base ≤ W.heap.size)
    (h : ∀ g cap w', Own R w' base lo e (l ++ [y]) (.slice (some ⟨g, 0, none⟩) (l.length + 1) cap) → W.grownBy w' v.ownBlock → (v.ownBlock = some g ∨ g = W.heap.size) → g < w'.heap.size → K (a.put o.dst (.slice (some ⟨g, 0, none⟩) (l.length + 1) cap)) w') :
    if Region.wanted o (yielded ops a.tmps) = true then Oper.wp P o a W K Q else E := by
  obtain ⟨xs, hor, hl⟩ := hown
  have hn := R.len hy
  refine step_append_lies W hgd s x t ho base e i z R.n bytes ht hi hz hsize hby hzs hsz v l.length xs hs hor ⟨B, 0, none⟩ 1 c cs hx (by rw [hn, Nat.one_mul]) ?_ h1 (by omega) h63 hbytes hbase W.heap.size rfl ?_
  · intro j u hj
    exact World.news_of_block hB j u (by simpa using hj)
  · intro g cap w' h2 h3 h4 h5
    exact h g cap w' (Own.push (row := xs) (g := g) (H := W.heap.size) hl hy h2 h3 rfl (h4.imp id fun h => ⟨h, Nat.le_refl _⟩)) h3 h4 h5

/-- 'append(out, y)' at the operation: y lies in a block of its own. -/
theorem wpList_pushB {P : Program} {α : Type} {R : Rep α} {ops : Array Oper} {rest : List Oper} {o : Oper} {a : Act} {Q : Exit → Act → World → Prop} (hgd : o.guard = none) (s x : Operand) (t : TypeId)
    (ho : o.op = .call { callee := .builtin .append, args := #[s, x], argTypes := #[t, t] })
    (base lo : Nat) (e : TypeId) (i : TypeInfo) (z : Value) (bytes : Nat) (ht : P.underlying t = some (.slice e)) (hi : P.info? e = some i) (hz : i.zero = some z)
    (hsize : i.size = R.n) (hby : i.bytes = bytes) (hzs : z.cells.size = R.n) (hsz : 0 < R.n)
    (W : World) (v : Value) (l : List α) (hs : a.eval s = v) (hown : Own R W base lo e l v) (y : α) (cs : List Value) (hy : R.rel W (From W lo v.ownBlock) y cs) (h1 : ∀ u ∈ cs, u.oneCell' = true)
    (B : Nat) (T : TypeId) (c : Nat) (hB : W.heap[B]? = some (.cells cs.toArray T (0, 0))) (hx : a.eval x = .slice (some ⟨B, 0, none⟩) 1 c) (h63 : l.length + 1 ≤ maxLen) (hbytes : (l.length + 1) * bytes ≤ 140737488355328) (hbase : base ≤ W.heap.size)
    (h : ∀ g cap w', Own R w' base lo e (l ++ [y]) (.slice (some ⟨g, 0, none⟩) (l.length + 1) cap) → W.grownBy w' v.ownBlock → (v.ownBlock = some g ∨ g = W.heap.size) → g < w'.heap.size → wpList P ops Q rest (a.put o.dst (.slice (some ⟨g, 0, none⟩) (l.length + 1) cap)) w') :
    wpList P ops Q (o :: rest) a W := by
  obtain ⟨xs, hor, hl⟩ := hown
  have hn := R.len hy
  refine wpList_append_lies W hgd s x t ho base e i z R.n bytes ht hi hz hsize hby hzs hsz v l.length xs hs hor ⟨B, 0, none⟩ 1 c cs hx (by rw [hn, Nat.one_mul]) ?_ h1 (by omega) h63 hbytes hbase W.heap.size rfl ?_
  · intro j u hj
    exact World.news_of_block hB j u (by simpa using hj)
  · intro g cap w' h2 h3 h4 h5
    exact h g cap w' (Own.push (row := xs) (g := g) (H := W.heap.size) hl hy h2 h3 rfl (h4.imp id fun h => ⟨h, Nat.le_refl _⟩)) h3 h4 h5

end Go.Proofs.YtnemcnpilngblaaDoor

/- Three slices of strings that one call fills side by side. -/
namespace Go.Proofs.YtnemcnpilngblaaDoor
set_option linter.unusedVariables false
open Go.RowKit

def Dis (v v' : Value) : Prop := ∀ g, v.ownBlock = some g → v'.ownBlock = some g → False
theorem Dis.symm {v v' : Value} (h : Dis v v') : Dis v' v := fun g a b => h g b a
theorem Dis.nil_ {v : Value} : Dis v (.slice none 0 0) := fun g _ b => by cases b
section
variable {w w' : World} {base : Nat} {l1 l2 l3 : List ByteArray} {v1 v2 v3 : Value}
end
end Go.Proofs.YtnemcnpilngblaaDoor

/- Rolls, rates and frames in plain words: what the program and the reference both compute. No program in sight. -/
namespace Go.Proofs.YtnemcnpilngblaaDoor
set_option linter.unusedVariables false
open Go.RowKit

end Go.Proofs.YtnemcnpilngblaaDoor

/- Reading codes, in plain words. No program in sight. -/
namespace Go.Proofs.YtnemcnpilngblaaDoor
set_option linter.unusedVariables false
open Go.RowKit

theorem fields {r n c : Int} (hc : c = 24 ∨ c = 25 ∨ c = 30) (h0 : 0 ≤ n) (h1 : n < 86400 * c) :
    ∃ H M S F : Int, H = n / c / 3600 ∧ M = n / c / 60 % 60 ∧ S = n / c % 60 ∧ F = n % c ∧ 0 ≤ H ∧ H < 24 ∧ 0 ≤ M ∧ M < 60 ∧ 0 ≤ S ∧ S < 60 ∧ 0 ≤ F ∧ F < 30 ∧ n = (60 * (60 * H + M) + S) * c + F ∧ 60 * H + M = n / (60 * c) := by
  refine ⟨_, _, _, _, rfl, rfl, rfl, rfl, ?_⟩
  rcases hc with rfl | rfl | rfl <;> omega
end Go.Proofs.YtnemcnpilngblaaDoor

/- Codes by their fields, in plain words. No program in sight. -/
namespace Go.Proofs.YtnemcnpilngblaaDoor
set_option linter.unusedVariables false
open Go.RowKit

end Go.Proofs.YtnemcnpilngblaaDoor

/- Events in plain words: what the program and the reference both compute. No program in sight. -/
namespace Go.Proofs.YtnemcnpilngblaaDoor
set_option linter.unusedVariables false
open Go.RowKit

structure Ev where
  roll : ByteArray
  tin : Int
  tout : Int
theorem Ev.ext_iff' {a b : Ev} : a = b ↔ a.roll = b.roll ∧ a.tin = b.tin ∧ a.tout = b.tout := by
  constructor
  · rintro rfl; exact ⟨rfl, rfl, rfl⟩
  · rintro ⟨h1, h2, h3⟩; cases a; cases b; simp at h1 h2 h3; subst h1; subst h2; subst h3; rfl
def Ev.cells (x : Ev) : List Value := [.string x.roll, .int .i64 x.tin, .int .i64 x.tout]
def Ev.val (x : Ev) : Value := .agg #[.string x.roll, .int .i64 x.tin, .int .i64 x.tout]
def Ev.eqB (a b : Ev) : Bool := decide (a.roll = b.roll) && decide (a.tin = b.tin) && decide (a.tout = b.tout)
theorem Ev.eqB_iff {a b : Ev} : a.eqB b = true ↔ a = b := by rw [Ev.ext_iff']; simp [Ev.eqB, and_assoc]
/-- Words of a line. -/
def words (s : ByteArray) (c : UInt8) : List ByteArray := Lib.splitB ⟨#[c]⟩ 0 (Lib.countB s ⟨#[c]⟩) s
theorem splitB_size (sep : ByteArray) : ∀ (k : Nat) (s x : ByteArray), x ∈ Lib.splitB sep 0 k s → x.size ≤ s.size := by
  intro k
  induction k with
  | zero => intro s x hx; rw [Lib.splitB_zero] at hx; simp at hx; rw [hx]; exact Nat.le_refl _
  | succ k ih =>
    intro s x hx
    rw [Lib.splitB] at hx
    split at hx
    · simp at hx; rw [hx]; exact Nat.le_refl _
    · rcases List.mem_cons.1 hx with rfl | hx
      · rw [ByteArray.size_extract]; omega
      · have := ih _ _ hx
        rw [ByteArray.size_extract] at this; omega
theorem words_size {s x : ByteArray} {c : UInt8} (h : x ∈ words s c) : x.size ≤ s.size := splitB_size _ _ _ _ h
theorem words_len (s : ByteArray) (c : UInt8) : (words s c).length = Lib.countB s ⟨#[c]⟩ + 1 := Lib.splitB_all ⟨#[c]⟩ (Nat.le_refl 1) 0 _ s rfl
theorem words_le (s : ByteArray) (c : UInt8) : (words s c).length ≤ s.size + 1 := by
  rw [words_len]; have := Lib.countB_le ⟨#[c]⟩ (Nat.le_refl 1) s.size s (Nat.le_refl _); omega

end Go.Proofs.YtnemcnpilngblaaDoor

/- The generator's words for literal lists; rolls. -/
namespace Go.Proofs.YtnemcnpilngblaaDoor
set_option linter.unusedVariables false
open Go.RowKit

section
variable {a w w' w1 : World} {sb : Nat} {k : Int}
end

end Go.Proofs.YtnemcnpilngblaaDoor

/- Where a generator's loop stands: stream, what has been made, the list so far, and blocks of its own. -/
namespace Go.Proofs.YtnemcnpilngblaaDoor
set_option linter.unusedVariables false
open Go.RowKit

section
variable {α : Type} {R : Rep α} {e : TypeId} {w wx wy : World} {sb : Nat} {l : List α} {v : Value} {P : List (Nat × Array Value × TypeId)} {n n' : Int}
end
end Go.Proofs.YtnemcnpilngblaaDoor

/- Append of a whole list; a list that lies in a box of a generator. No program in sight. -/
namespace Go.Proofs.YtnemcnpilngblaaDoor
set_option linter.unusedVariables false
open Go.RowKit

theorem Lay.oneC {α : Type} {R : Rep α} {w : World} {F : Nat → Prop} {l : List α} {cs : List Value} (h : Lay R w F l cs) (h1 : ∀ x a, R.rel w F x a → ∀ u ∈ a, u.oneCell' = true) : ∀ u ∈ cs, u.oneCell' = true := by
  intro u hu
  obtain ⟨j, hj, rfl⟩ := List.mem_iff_getElem.1 hu
  by_cases hn : R.n = 0
  · rw [h.1, hn] at hj; omega
  · have hq : j / R.n < l.length := (Nat.div_lt_iff_lt_mul (by omega)).2 (by rw [← h.1]; exact hj)
    refine h1 _ _ (h.2 _ _ (List.getElem?_eq_getElem hq)) _ ?_
    rw [List.mem_iff_getElem?]
    refine ⟨j % R.n, ?_⟩
    rw [List.getElem?_take, List.getElem?_drop, if_pos (Nat.mod_lt _ (by omega)), Nat.mul_comm, Nat.div_add_mod]
    exact List.getElem?_eq_getElem hj

section
variable {α : Type} {R : Rep α} {w w' w1 : World} {base lo : Nat} {e : TypeId} {l l' : List α} {v : Value}
end

section
variable {α : Type} {R : Rep α} {e : TypeId} {w wx wy : World} {sb : Nat} {l : List α} {v : Value} {P : List (Nat × Array Value × TypeId)} {n n' : Int}
end
end Go.Proofs.YtnemcnpilngblaaDoor

/- Where a generator's loop stands whose elements hold lists of their own. No program in sight. -/
namespace Go.Proofs.YtnemcnpilngblaaDoor
set_option linter.unusedVariables false
open Go.RowKit

section
variable {α β : Type} {R : Rep α} {RI : Rep β} {inn : α → List β} {pv : α → Value} {e : TypeId} {w wx wy : World} {sb : Nat} {l : List α} {v : Value} {P Q : List (Nat × Array Value × TypeId)} {n n' : Int}
end
end Go.Proofs.YtnemcnpilngblaaDoor

/- A store into an element of a list of one's own. No program in sight. -/
namespace Go.Proofs.YtnemcnpilngblaaDoor
set_option linter.unusedVariables false
open Go.RowKit

theorem take_drop_set {xs : List Value} {i a n : Nat} {u : Value} (h : i < a ∨ a + n ≤ i) : ((xs.set i u).drop a).take n = (xs.drop a).take n := by
  apply List.ext_getElem?
  intro j
  simp only [List.getElem?_take, List.getElem?_drop, List.getElem?_set]
  by_cases hj : j < n
  · rw [if_pos hj, if_pos hj, if_neg (by omega)]
  · rw [if_neg hj, if_neg hj]
theorem take_drop_set_in {xs : List Value} {a j n : Nat} {u : Value} (hj : j < n) (hl : a + j < xs.length) : ((xs.set (a + j) u).drop a).take n = ((xs.drop a).take n).set j u := by
  apply List.ext_getElem?
  intro i
  simp only [List.getElem?_take, List.getElem?_drop, List.getElem?_set, List.length_take, List.length_drop]
  by_cases hi : i < n
  · rw [if_pos hi, if_pos hi]
    by_cases e : j = i
    · subst e
      rw [if_pos rfl, if_pos rfl, if_pos hl, if_pos (by omega)]
    · rw [if_neg (by omega), if_neg e]
  · rw [if_neg hi, if_neg hi, if_neg (by omega)]
section
variable {α : Type} {n : Nat} {enc : α → List Value} {hn : ∀ x, (enc x).length = n} {w : World} {base lo : Nat} {e : TypeId} {l : List α} {v : Value}
theorem Lay.modify {F G : Nat → Prop} {w' : World} {xs : List Value} (h : Lay (Rep.flat n enc hn) w F l xs) (f : α → α) (k j : Nat) (u : Value) (hf : ∀ x, enc (f x) = (enc x).set j u) (hj : j < n) (hk : k < l.length) : Lay (Rep.flat n enc hn) w' G (l.modify k f) (xs.set (k * n + j) u) := by
  have h1 : xs.length = l.length * n := h.1
  refine ⟨by rw [List.length_set, List.length_modify]; exact h.1, fun i x hx => ?_⟩
  show ((xs.set (k * n + j) u).drop (i * n)).take n = enc x
  rw [List.getElem?_modify] at hx
  have hkn : (k + 1) * n ≤ l.length * n := Nat.mul_le_mul_right _ hk
  rw [Nat.add_mul, Nat.one_mul] at hkn
  by_cases e : k = i
  · subst e
    rw [List.getElem?_eq_getElem hk] at hx
    simp at hx
    have hz : (xs.drop (k * n)).take n = enc l[k] := h.2 k _ (List.getElem?_eq_getElem hk)
    rw [take_drop_set_in hj (by omega), hz, ← hx, hf]
  · have hx' : l[i]? = some x := by
      rw [← hx]
      cases l[i]? <;> simp [e]
    have hz : (xs.drop (i * n)).take n = enc x := h.2 i x hx'
    rw [take_drop_set ?_, hz]
    rcases Nat.lt_or_gt_of_ne e with h2 | h2
    · left
      have : (k + 1) * n ≤ i * n := Nat.mul_le_mul_right _ h2
      rw [Nat.add_mul, Nat.one_mul] at this
      omega
    · right
      have : (i + 1) * n ≤ k * n := Nat.mul_le_mul_right _ h2
      rw [Nat.add_mul, Nat.one_mul] at this
      omega
/-- The store at cell j of element k. -/
theorem Own.modify {g m cap : Nat} (h : Own (Rep.flat n enc hn) w base lo e l (.slice (some ⟨g, 0, none⟩) m cap)) (f : α → α) (k j : Nat) (u : Value) (hf : ∀ x, enc (f x) = (enc x).set j u) (hj : j < n) (hk : k < l.length) :
    Own (Rep.flat n enc hn) (w.setCell ⟨g, k * n + j, none⟩ u) base lo e (l.modify k f) (.slice (some ⟨g, 0, none⟩) m cap) := by
  obtain ⟨xs, ho, hl⟩ := h
  refine ⟨xs.set (k * n + j) u, ⟨by rw [List.length_set, List.length_modify]; exact ho.1, ?_⟩, hl.modify f k j u hf hj hk⟩
  rcases ho.2 with ⟨hv, _⟩ | ⟨g', cap', cur, hv, hb, hg, h1, h2, h3, h4⟩
  · cases hv
  · injection hv with hv1 hv2 hv3
    injection hv1 with hv1
    injection hv1 with hv1
    subst hv1; subst hv3
    refine .inr ⟨g, cap, cur.setIfInBounds (k * n + j) u, by rw [List.length_modify]; rw [hv2], hb, by simp [World.setCell, Array.getElem?_modify, hg], by rw [List.length_modify]; exact h1, h2, by simpa using h3, ?_⟩
    rw [List.length_modify, ← h4]
    have hkn : (k + 1) * n ≤ l.length * n := Nat.mul_le_mul_right _ hk
    rw [Nat.add_mul, Nat.one_mul] at hkn
    show (cur.setIfInBounds (k * n + j) u).toList.take (l.length * n) = (cur.toList.take (l.length * n)).set (k * n + j) u
    rw [Array.toList_setIfInBounds, List.take_set]
/-- A row that begins behind a block begins behind an earlier one. -/
theorem Own.less {base' lo' : Nat} (h : Own (Rep.flat n enc hn) w base lo e l v) (hb : base' ≤ base) : Own (Rep.flat n enc hn) w base' lo' e l v := by
  obtain ⟨xs, ho, hl⟩ := h
  refine ⟨xs, ⟨ho.1, ?_⟩, hl⟩
  rcases ho.2 with hv | ⟨g, cap, cur, hv, hg, rest⟩
  · exact .inl hv
  · exact .inr ⟨g, cap, cur, hv, by omega, rest⟩
/-- Cell j of element k, and that it may be written. -/
theorem Own.cellAt {g m cap : Nat} (h : Own (Rep.flat n enc hn) w base lo e l (.slice (some ⟨g, 0, none⟩) m cap)) (k : Nat) (hk : k < l.length) (j : Nat) (hj : j < n) : w.cell? ⟨g, k * n + j, none⟩ = (enc l[k])[j]? ∧ w.frozen? ⟨g, k * n + j, none⟩ = false := by
  obtain ⟨xs, ho, hl⟩ := h
  rcases ho.2 with ⟨hv, _⟩ | ⟨g', cap', cur, hv, hb, hg, h1, h2, h3, h4⟩
  · cases hv
  · injection hv with hv1 hv2 hv3
    injection hv1 with hv1
    injection hv1 with hv1
    subst hv1; subst hv3
    obtain ⟨h5, h6⟩ := str_cells hg
    refine ⟨?_, h6 _⟩
    rw [h5]
    have hz : (xs.drop (k * n)).take n = enc l[k] := hl.2 k _ (List.getElem?_eq_getElem hk)
    have hkn : (k + 1) * n ≤ l.length * n := Nat.mul_le_mul_right _ hk
    rw [Nat.add_mul, Nat.one_mul] at hkn
    rw [← hz, List.getElem?_take, if_pos hj, List.getElem?_drop, ← h4, List.getElem?_take, if_pos (by show k * n + j < l.length * n; omega)]
    simp
/-- The row is never nil when it has elements. -/
theorem Own.some_ (h : Own (Rep.flat n enc hn) w base lo e l v) (h0 : 0 < l.length) : ∃ g cap, v = .slice (some ⟨g, 0, none⟩) l.length cap ∧ base ≤ g ∧ g < w.heap.size := by
  rcases h.form with ⟨_, rfl⟩ | ⟨g, cap, hv, hb, hg, _⟩
  · simp at h0
  · exact ⟨g, cap, hv, hb, hg⟩
end
section
variable {α β : Type} {RI : Rep β} {inn : α → List β} {pv : α → Value} {n : Nat} {enc : α → List Value} {hn : ∀ x, (enc x).length = n} {e : TypeId} {w wx wy : World} {sb : Nat} {l : List α} {P : List (Nat × Array Value × TypeId)} {k0 : Int}
end
end Go.Proofs.YtnemcnpilngblaaDoor

/- Where a loop stands that fills a list of its own: what it has left as it was, the list so far, and blocks of its own. No program in sight. -/
namespace Go.Proofs.YtnemcnpilngblaaDoor
set_option linter.unusedVariables false
open Go.RowKit

structure BO {α : Type} (R : Rep α) (e : TypeId) (w : World) (l : List α) (v : Value) (P : List (Nat × Array Value × TypeId)) (wx : World) : Prop where
  bel : Below w.heap.size w wx
  own : Own R wx w.heap.size w.heap.size e l v
  prv : ∀ p ∈ P, wx.heap[p.1]? = some (.cells p.2.1 p.2.2 (0, 0)) ∧ w.heap.size ≤ p.1 ∧ v.ownBlock ≠ some p.1
section
variable {α : Type} {R : Rep α} {e : TypeId} {w wx wy : World} {l : List α} {v : Value} {P Q : List (Nat × Array Value × TypeId)}
theorem BO.start (w : World) : BO R e w [] (.slice none 0 0) [] w := ⟨Below.refl _ _, Own.nil_, fun p hp => by cases hp⟩
theorem BO.size (h : BO R e w l v P wx) : w.heap.size ≤ wx.heap.size := h.bel.size
theorem BO.plt (h : BO R e w l v P wx) {p : Nat × Array Value × TypeId} (hp : p ∈ P) : p.1 < wx.heap.size := heap_lt (h.prv p hp).1
theorem BO.below (h : BO R e w l v P wx) (hb : Below wx.heap.size wx wy) : BO R e w l v P wy :=
  ⟨h.bel.trans (hb.mono h.size), h.own.below hb, fun p hp => ⟨(hb.block _ (h.plt hp)).trans (h.prv p hp).1, (h.prv p hp).2⟩⟩
theorem BO.alloc (h : BO R e w l v P wx) (o : Obj) : BO R e w l v P (wx.alloc o) := h.below ((Below.refl _ wx).alloc (Nat.le_refl _) o)
theorem BO.drew (h : BO R e w l v P wx) : BO R e w l v P wx.drew := ⟨⟨h.bel.os, h.bel.tape, h.bel.output, h.bel.size, h.bel.block⟩, h.own.drew, h.prv⟩
theorem BO.new (h : BO R e w l v P wx) (cs : Array Value) (T : TypeId) : BO R e w l v ((wx.heap.size, cs, T) :: P) (wx.alloc (.cells cs T)) := by
  have h2 := h.alloc (.cells cs T)
  refine ⟨h2.bel, h2.own, fun p hp => ?_⟩
  rcases List.mem_cons.1 hp with rfl | hp
  · exact ⟨heap_alloc_new wx _, h.size, fun e => by have := h.own.block _ e; omega⟩
  · exact h2.prv p hp
theorem belSet (h : Below w.heap.size w wx) {p : Addr} (hp : w.heap.size ≤ p.block) (u : Value) : Below w.heap.size w (wx.setCell p u) :=
  ⟨h.os, h.tape, h.output, by simpa [World.setCell] using h.size, fun i hi => (Below.heap_setCell wx p u i (by omega)).trans (h.block i hi)⟩
theorem BO.set {b i : Nat} {cs : Array Value} {T : TypeId} (h : BO R e w l v ((b, cs, T) :: P) wx) (hf : ∀ {w w' : World} {F : Nat → Prop} {x : α} {cs : List Value}, R.rel w F x cs → R.rel w' F x cs) (u : Value) (hd : ∀ p ∈ P, p.1 ≠ b) : BO R e w l v ((b, cs.setIfInBounds i u, T) :: P) (wx.setCell ⟨b, i, none⟩ u) := by
  obtain ⟨h1, h2, h3⟩ := h.prv (b, cs, T) (by simp)
  dsimp only at h1 h2 h3
  refine ⟨belSet h.bel h2 u, ?_, fun p hp => ?_⟩
  · obtain ⟨xs, ho, hl⟩ := h.own
    refine ⟨xs, ⟨ho.1, ?_⟩, ⟨hl.1, fun k x hx => ?_⟩⟩
    · rcases ho.2 with hn | ⟨g, cap, cur, rfl, hb, hg, rest⟩
      · exact .inl hn
      · exact .inr ⟨g, cap, cur, rfl, hb, (Below.heap_setCell wx ⟨b, i, none⟩ u g (by intro e; exact h3 (by rw [e]; rfl))).trans hg, rest⟩
    · exact hf (R.more (hl.2 k x hx) (fun q hq => ⟨hq.1, by simpa [World.setCell] using hq.2.1, hq.2.2⟩))
  · rcases List.mem_cons.1 hp with rfl | hp
    · exact ⟨by simp [World.setCell, Array.getElem?_modify, h1], h2, h3⟩
    · obtain ⟨k1, k2, k3⟩ := h.prv p (by simp [hp])
      exact ⟨(Below.heap_setCell wx ⟨b, i, none⟩ u _ (by have := hd p hp; show p.1 ≠ b; exact this)).trans k1, k2, k3⟩
theorem BO.less (h : BO R e w l v P wx) (hq : ∀ p ∈ Q, p ∈ P) : BO R e w l v Q wx := ⟨h.bel, h.own, fun p hp => h.prv p (hq p hp)⟩
theorem BO.cell (h : BO R e w l v P wx) {p : Nat × Array Value × TypeId} (hp : p ∈ P) : (∀ i, wx.cell? ⟨p.1, i, none⟩ = p.2.1[i]?) ∧ (∀ i, wx.frozen? ⟨p.1, i, none⟩ = false) := str_cells (h.prv p hp).1
/-- The list has grown, in its row or in a new one. -/
theorem BO.more {l' : List α} {v' : Value} {g : Nat} (h : BO R e w l v P wx) (hown : Own R wy w.heap.size w.heap.size e l' v') (hg : wx.grownBy wy v.ownBlock) (hv : v'.ownBlock = some g) (hat : v.ownBlock = some g ∨ g = wx.heap.size) : BO R e w l' v' P wy := by
  have hz := h.size
  refine ⟨h.bel.grown hg hz (fun k hk => (h.own.block k hk).1), hown, fun p hp => ?_⟩
  obtain ⟨k1, k2, k3⟩ := h.prv p hp
  have hlt := heap_lt k1
  refine ⟨(hg.block p.1 hlt (fun e => k3 e.symm)).trans k1, k2, ?_⟩
  rw [hv]
  intro e
  injection e with e
  rcases hat with hat | hat
  · exact k3 (by rw [hat, e])
  · omega
/-- A list that a call has made takes the place of an empty one. -/
theorem BO.take {l' : List α} {v' : Value} (h : BO R e w l v P wx) (hb : Below wx.heap.size wx wy) (hown : Own R wy wx.heap.size wx.heap.size e l' v') (hl : Own R wy w.heap.size w.heap.size e l' v') : BO R e w l' v' P wy :=
  ⟨h.bel.trans (hb.mono h.size), hl, fun p hp => ⟨(hb.block _ (h.plt hp)).trans (h.prv p hp).1, (h.prv p hp).2.1, fun e => by have := hown.block _ e; have := h.plt hp; omega⟩⟩
end
section
variable {α : Type} {n : Nat} {enc : α → List Value} {hn : ∀ x, (enc x).length = n} {e : TypeId} {w wx wy : World} {l : List α} {P : List (Nat × Array Value × TypeId)}
theorem BO.modify {g m cap : Nat} (h : BO (Rep.flat n enc hn) e w l (.slice (some ⟨g, 0, none⟩) m cap) P wx) (f : α → α) (k j : Nat) (u : Value) (hf : ∀ x, enc (f x) = (enc x).set j u) (hj : j < n) (hk : k < l.length) :
    BO (Rep.flat n enc hn) e w (l.modify k f) (.slice (some ⟨g, 0, none⟩) m cap) P (wx.setCell ⟨g, k * n + j, none⟩ u) := by
  have hg := h.own.block g rfl
  refine ⟨belSet h.bel hg.1 u, h.own.modify f k j u hf hj hk, fun p hp => ?_⟩
  obtain ⟨h1, h2, h3⟩ := h.prv p hp
  exact ⟨(Below.heap_setCell wx ⟨g, k * n + j, none⟩ u _ (by intro e; exact h3 (by rw [e]; rfl))).trans h1, h2, h3⟩
end
end Go.Proofs.YtnemcnpilngblaaDoor

/- Where a loop stands beside a stream, that fills a list whose elements hold lists of their own, the last of these under way; with blocks of its own of any kind. No program in sight. -/
namespace Go.Proofs.YtnemcnpilngblaaDoor
set_option linter.unusedVariables false
open Go.RowKit

abbrev Pb := Nat × (Option Obj → Prop)
/-- A block that holds just these cells. -/
def cellsP (cs : Array Value) (T : TypeId) : Option Obj → Prop := fun o => o = some (.cells cs T (0, 0))
/-- A block that is a map. -/
def mapP {κ : Type} (mk : κ → Value) (m : List (κ × Value)) : Option Obj → Prop := fun o => ∃ es clock, o = some (.map es clock) ∧ epairs es.toList = pairs mk m
section
variable {α β : Type} {n1 n2 : Nat} {enc : α → List Value} {h1 : ∀ x, (enc x).length = n1} {enc2 : β → List Value} {h2 : ∀ x, (enc2 x).length = n2} {inn : α → List β} {pv : α → Value} {e e2 : TypeId}
  {w wx wy : World} {sb : Nat} {l : List α} {v : Value} {lc : List β} {vc : Value} {P Q : List Pb} {n n' : Int}
end
end Go.Proofs.YtnemcnpilngblaaDoor

/- A list of one's own whose elements hold lists of their own that may still grow. No program in sight. -/
namespace Go.Proofs.YtnemcnpilngblaaDoor
set_option linter.unusedVariables false
open Go.RowKit

section
variable {α : Type} {n : Nat} {enc : α → List Value} {hn : ∀ x, (enc x).length = n} {w w' : World} {base lo : Nat} {e : TypeId} {l : List α} {v : Value}
/-- A row of plain cells stays where its own block stays. -/
theorem Own.keepF (h : Own (Rep.flat n enc hn) w base lo e l v) (hk : ∀ g, v.ownBlock = some g → w'.heap[g]? = w.heap[g]?) (hs : w.heap.size ≤ w'.heap.size) : Own (Rep.flat n enc hn) w' base lo e l v := by
  obtain ⟨xs, ho, hl⟩ := h
  refine ⟨xs, ⟨ho.1, ?_⟩, hl⟩
  rcases ho.2 with hn | ⟨g, cap, cur, rfl, hb, hg, rest⟩
  · exact .inl hn
  · exact .inr ⟨g, cap, cur, rfl, hb, by rw [hk g rfl]; exact hg, rest⟩
/-- The cells of a row of plain cells, where its own block lies. -/
theorem Own.sliF {F : Nat → Prop} (h : Own (Rep.flat n enc hn) w base lo e l v) (hB : ∀ g, v.ownBlock = some g → F g) : Sli (Rep.flat n enc hn) w F l v := by
  obtain ⟨xs, ho, hl⟩ := h
  exact Sli.own (R := Rep.flat n enc hn) ho hl rfl (fun b c hv => hB b (by rw [hv]; rfl))
end
structure NS {α β : Type} (R : Rep α) (RI : Rep β) (inn : α → List β) (pv : α → Value) (e eI : TypeId) (w : World) (l : List α) (v : Value) (P : List (Nat × Array Value × TypeId)) (wx : World) : Prop where
  bo : BO R e w l v P wx
  row : ∀ (i : Nat) x, l[i]? = some x → Own RI wx w.heap.size w.heap.size eI (inn x) (pv x) ∧ (∀ g, (pv x).ownBlock = some g → v.ownBlock ≠ some g ∧ ∀ p ∈ P, p.1 ≠ g)
  dis : ∀ (i j : Nat) x y, l[i]? = some x → l[j]? = some y → i ≠ j → Dis (pv x) (pv y)
section
variable {α β : Type} {n m : Nat} {enc : α → List Value} {hn : ∀ x, (enc x).length = n} {encI : β → List Value} {hm : ∀ x, (encI x).length = m} {inn : α → List β} {pv : α → Value} {e eI : TypeId} {w wx wy : World} {l : List α} {v : Value} {P Q : List (Nat × Array Value × TypeId)}
abbrev NF (n m : Nat) (enc : α → List Value) (hn : ∀ x, (enc x).length = n) (encI : β → List Value) (hm : ∀ x, (encI x).length = m) (inn : α → List β) (pv : α → Value) (e eI : TypeId) (w : World) (l : List α) (v : Value) (P : List (Nat × Array Value × TypeId)) (wx : World) : Prop := NS (Rep.flat n enc hn) (Rep.flat m encI hm) inn pv e eI w l v P wx
theorem NS.start (w : World) : NF n m enc hn encI hm inn pv e eI w [] (.slice none 0 0) [] w := ⟨BO.start w, fun i x h => by simp at h, fun i j x y h => by simp at h⟩
theorem NS.below (h : NF n m enc hn encI hm inn pv e eI w l v P wx) (hb : Below wx.heap.size wx wy) : NF n m enc hn encI hm inn pv e eI w l v P wy :=
  ⟨h.bo.below hb, fun i x hx => ⟨(h.row i x hx).1.below hb, (h.row i x hx).2⟩, h.dis⟩
theorem NS.alloc (h : NF n m enc hn encI hm inn pv e eI w l v P wx) (o : Obj) : NF n m enc hn encI hm inn pv e eI w l v P (wx.alloc o) := h.below ((Below.refl _ wx).alloc (Nat.le_refl _) o)
theorem NS.drew (h : NF n m enc hn encI hm inn pv e eI w l v P wx) : NF n m enc hn encI hm inn pv e eI w l v P wx.drew := ⟨h.bo.drew, fun i x hx => ⟨(h.row i x hx).1.drew, (h.row i x hx).2⟩, h.dis⟩
theorem NS.new (h : NF n m enc hn encI hm inn pv e eI w l v P wx) (cs : Array Value) (T : TypeId) : NF n m enc hn encI hm inn pv e eI w l v ((wx.heap.size, cs, T) :: P) (wx.alloc (.cells cs T)) := by
  have h2 := h.alloc (.cells cs T)
  refine ⟨h.bo.new cs T, fun i x hx => ⟨(h2.row i x hx).1, fun g hg => ⟨((h.row i x hx).2 g hg).1, fun p hp => ?_⟩⟩, h.dis⟩
  rcases List.mem_cons.1 hp with rfl | hp
  · have := (h.row i x hx).1.block g hg; dsimp only; omega
  · exact ((h.row i x hx).2 g hg).2 p hp
theorem NS.set {b i : Nat} {cs : Array Value} {T : TypeId} (h : NF n m enc hn encI hm inn pv e eI w l v ((b, cs, T) :: P) wx) (u : Value) (hd : ∀ p ∈ P, p.1 ≠ b) : NF n m enc hn encI hm inn pv e eI w l v ((b, cs.setIfInBounds i u, T) :: P) (wx.setCell ⟨b, i, none⟩ u) := by
  refine ⟨h.bo.set (fun h => h) u hd, fun k x hx => ⟨(h.row k x hx).1.keepF (fun g hg => Below.heap_setCell wx ⟨b, i, none⟩ u g (fun e => ((h.row k x hx).2 g hg).2 (b, cs, T) (by simp) e.symm)) (by simp [World.setCell]), fun g hg => ⟨((h.row k x hx).2 g hg).1, fun p hp => ?_⟩⟩, h.dis⟩
  rcases List.mem_cons.1 hp with rfl | hp
  · exact ((h.row k x hx).2 g hg).2 (b, cs, T) (by simp)
  · exact ((h.row k x hx).2 g hg).2 p (by simp [hp])
theorem NS.less (h : NF n m enc hn encI hm inn pv e eI w l v P wx) (hq : ∀ p ∈ Q, p ∈ P) : NF n m enc hn encI hm inn pv e eI w l v Q wx := ⟨h.bo.less hq, fun i x hx => ⟨(h.row i x hx).1, fun g hg => ⟨((h.row i x hx).2 g hg).1, fun p hp => ((h.row i x hx).2 g hg).2 p (hq p hp)⟩⟩, h.dis⟩
theorem NS.cell (h : NF n m enc hn encI hm inn pv e eI w l v P wx) {p : Nat × Array Value × TypeId} (hp : p ∈ P) : (∀ i, wx.cell? ⟨p.1, i, none⟩ = p.2.1[i]?) ∧ (∀ i, wx.frozen? ⟨p.1, i, none⟩ = false) := h.bo.cell hp
/-- One element more, whose own list is still empty. -/
theorem NS.push {x' : α} {v' : Value} {g : Nat} (h : NF n m enc hn encI hm inn pv e eI w l v P wx) (hown : Own (Rep.flat n enc hn) wy w.heap.size w.heap.size e (l ++ [x']) v') (hg : wx.grownBy wy v.ownBlock) (hv : v'.ownBlock = some g) (hat : v.ownBlock = some g ∨ g = wx.heap.size)
    (hi : inn x' = []) (hp : pv x' = .slice none 0 0) : NF n m enc hn encI hm inn pv e eI w (l ++ [x']) v' P wy := by
  have hlast : ∀ (i : Nat) x, (l ++ [x'])[i]? = some x → (i < l.length ∧ l[i]? = some x) ∨ (i = l.length ∧ x = x') := fun i x hx => by
    by_cases hil : i < l.length
    · rw [List.getElem?_append_left hil] at hx; exact .inl ⟨hil, hx⟩
    · have hlt := (List.getElem?_eq_some_iff.1 hx).1
      simp at hlt
      have : i = l.length := by omega
      subst this
      rw [List.getElem?_append_right (Nat.le_refl _)] at hx
      simp at hx
      exact .inr ⟨rfl, hx.symm⟩
  refine ⟨h.bo.more hown hg hv hat, fun i x hx => ?_, fun i j x y hx hy hij => ?_⟩
  · rcases hlast i x hx with ⟨hil, hx⟩ | ⟨_, rfl⟩
    · have hr := h.row i x hx
      refine ⟨hr.1.keepF (fun k hk => hg.block k (hr.1.block k hk).2 (fun e => (hr.2 k hk).1 e.symm)) hg.size, fun k hk => ⟨?_, (hr.2 k hk).2⟩⟩
      rw [hv]
      intro e
      injection e with e
      rcases hat with hat | hat
      · exact (hr.2 k hk).1 (by rw [hat, e])
      · have := (hr.1.block k hk).2; omega
    · rw [hi, hp]
      exact ⟨Own.nil_, fun g hg => by cases hg⟩
  · rcases hlast i x hx with ⟨hil, hx⟩ | ⟨hi2, rfl⟩
    · rcases hlast j y hy with ⟨hjl, hy⟩ | ⟨_, rfl⟩
      · exact h.dis i j x y hx hy hij
      · rw [hp]; exact Dis.nil_
    · rcases hlast j y hy with ⟨hjl, hy⟩ | ⟨hj2, rfl⟩
      · rw [hp]; exact Dis.nil_.symm
      · omega
/-- The list of element k has grown, and stands in the element again. -/
theorem NS.inner {g0 M cap k j : Nat} (h : NF n m enc hn encI hm inn pv e eI w l (.slice (some ⟨g0, 0, none⟩) M cap) P wx) (hk : k < l.length) {u : Value} {g' : Nat} {li : List β}
    (hown : Own (Rep.flat m encI hm) wy w.heap.size w.heap.size eI li u) (hg : wx.grownBy wy (pv l[k]).ownBlock) (hv : u.ownBlock = some g') (hat : (pv l[k]).ownBlock = some g' ∨ wx.heap.size ≤ g')
    (f : α → α) (hf : ∀ x, enc (f x) = (enc x).set j u) (hj : j < n) (hinn : inn (f l[k]) = li) (hpv : pv (f l[k]) = u) :
    NF n m enc hn encI hm inn pv e eI w (l.modify k f) (.slice (some ⟨g0, 0, none⟩) M cap) P (wy.setCell ⟨g0, k * n + j, none⟩ u) := by
  have hrk := h.row k l[k] (List.getElem?_eq_getElem hk)
  have h0 := h.bo.own.block g0 rfl
  have hz := h.bo.size
  have hne : ∀ q, (pv l[k]).ownBlock = some q → q ≠ g0 := fun q hq e => (hrk.2 q hq).1 (by rw [e]; rfl)
  have hg0 : g' ≠ g0 := by
    rcases hat with hat | hat
    · exact hne g' hat
    · omega
  have hbo : BO (Rep.flat n enc hn) e w l (.slice (some ⟨g0, 0, none⟩) M cap) P wy := by
    refine ⟨h.bo.bel.grown hg hz (fun q hq => (hrk.1.block q hq).1), h.bo.own.keepF (fun q hq => ?_) hg.size, fun p hp => ?_⟩
    · injection hq with hq; subst hq
      exact hg.block _ h0.2 (fun e => hne _ e.symm rfl)
    · obtain ⟨k1, k2, k3⟩ := h.bo.prv p hp
      exact ⟨(hg.block p.1 (heap_lt k1) (fun e => (hrk.2 p.1 e.symm).2 p hp rfl)).trans k1, k2, k3⟩
  have hmod : ∀ (i : Nat) x, (l.modify k f)[i]? = some x → (i = k ∧ x = f l[k]) ∨ (i ≠ k ∧ l[i]? = some x) := fun i x hx => by
    rw [List.getElem?_modify] at hx
    by_cases e : k = i
    · subst e
      rw [List.getElem?_eq_getElem hk] at hx
      simp at hx
      exact .inl ⟨rfl, hx.symm⟩
    · refine .inr ⟨fun e2 => e e2.symm, ?_⟩
      rw [← hx]
      cases l[i]? <;> simp [e]
  refine ⟨hbo.modify f k j u hf hj hk, fun i x hx => ?_, fun i i2 x y hx hy hij => ?_⟩
  · rcases hmod i x hx with ⟨rfl, rfl⟩ | ⟨hik, hx⟩
    · rw [hinn, hpv]
      refine ⟨hown.keepF (fun q hq => Below.heap_setCell wy ⟨g0, i * n + j, none⟩ u q (fun e => ?_)) (by simp [World.setCell]), fun q hq => ?_⟩
      · rw [hv] at hq; injection hq with hq; exact hg0 (hq.trans e)
      · rw [hv] at hq; injection hq with hq; subst hq
        refine ⟨fun e => hg0 (by injection e with e; exact e.symm), fun p hp e => ?_⟩
        rcases hat with hat | hat
        · exact (hrk.2 _ hat).2 p hp e
        · have := h.bo.plt hp; omega
    · have hr := h.row i x hx
      have hd := h.dis i k x l[k] hx (List.getElem?_eq_getElem hk) hik
      refine ⟨(hr.1.keepF (fun q hq => hg.block q (hr.1.block q hq).2 (fun e => hd q hq e.symm)) hg.size).keepF (fun q hq => Below.heap_setCell wy ⟨g0, k * n + j, none⟩ u q (fun e => (hr.2 q hq).1 (by rw [e]; rfl))) (by simp [World.setCell]), hr.2⟩
  · have key : ∀ (i : Nat) x, l[i]? = some x → i ≠ k → Dis (pv x) u := fun i x hx hik q hq hu => by
      rw [hv] at hu; injection hu with hu; subst hu
      rcases hat with hat | hat
      · exact h.dis i k x l[k] hx (List.getElem?_eq_getElem hk) hik _ hq hat
      · have := ((h.row i x hx).1.block _ hq).2; omega
    rcases hmod i x hx with ⟨e1, e2⟩ | ⟨hik, hx1⟩
    · rcases hmod i2 y hy with ⟨e3, e4⟩ | ⟨hik2, hy1⟩
      · exact absurd (e1.trans e3.symm) hij
      · rw [e2, hpv]; exact (key i2 y hy1 hik2).symm
    · rcases hmod i2 y hy with ⟨e3, e4⟩ | ⟨hik2, hy1⟩
      · rw [e4, hpv]; exact key i x hx1 hik
      · exact h.dis i i2 x y hx1 hy1 hij
end
end Go.Proofs.YtnemcnpilngblaaDoor

/- Where a loop stands that fills a list of its own beside blocks of its own of any kind (maps, too). No program in sight. -/
namespace Go.Proofs.YtnemcnpilngblaaDoor
set_option linter.unusedVariables false
open Go.RowKit

structure BM {α : Type} (R : Rep α) (e : TypeId) (w : World) (l : List α) (v : Value) (P : List Pb) (wx : World) : Prop where
  bel : Below w.heap.size w wx
  own : Own R wx w.heap.size w.heap.size e l v
  prv : ∀ p ∈ P, p.2 wx.heap[p.1]? ∧ w.heap.size ≤ p.1 ∧ p.1 < wx.heap.size ∧ v.ownBlock ≠ some p.1
section
variable {α : Type} {n : Nat} {enc : α → List Value} {hn : ∀ x, (enc x).length = n} {e : TypeId} {w wx wy : World} {l l' : List α} {v v' : Value} {P Q : List Pb}
theorem BM.start (w : World) : BM (Rep.flat n enc hn) e w [] (.slice none 0 0) [] w := ⟨Below.refl _ _, Own.nil_, fun p hp => by cases hp⟩
theorem BM.size (h : BM (Rep.flat n enc hn) e w l v P wx) : w.heap.size ≤ wx.heap.size := h.bel.size
theorem BM.below (h : BM (Rep.flat n enc hn) e w l v P wx) (hb : Below wx.heap.size wx wy) : BM (Rep.flat n enc hn) e w l v P wy :=
  ⟨h.bel.trans (hb.mono h.size), h.own.below hb, fun p hp => by
    obtain ⟨a, b, c, d⟩ := h.prv p hp
    exact ⟨by rw [hb.block p.1 c]; exact a, b, Nat.lt_of_lt_of_le c hb.size, d⟩⟩
theorem BM.alloc (h : BM (Rep.flat n enc hn) e w l v P wx) (o : Obj) : BM (Rep.flat n enc hn) e w l v P (wx.alloc o) := h.below ((Below.refl _ wx).alloc (Nat.le_refl _) o)
theorem BM.drew (h : BM (Rep.flat n enc hn) e w l v P wx) : BM (Rep.flat n enc hn) e w l v P wx.drew := ⟨⟨h.bel.os, h.bel.tape, h.bel.output, h.bel.size, h.bel.block⟩, h.own.drew, h.prv⟩
theorem BM.less (h : BM (Rep.flat n enc hn) e w l v P wx) (hq : ∀ p ∈ Q, p ∈ P) : BM (Rep.flat n enc hn) e w l v Q wx := ⟨h.bel, h.own, fun p hp => h.prv p (hq p hp)⟩
/-- A block that has been laid since takes its place among the private ones. -/
theorem BM.block (h : BM (Rep.flat n enc hn) e w l v P wx) (hb : Below wx.heap.size wx wy) {B : Nat} {f : Option Obj → Prop} (hB : wx.heap.size ≤ B) (hlt : B < wy.heap.size) (hf : f wy.heap[B]?) : BM (Rep.flat n enc hn) e w l v ((B, f) :: P) wy := by
  have h2 := h.below hb
  refine ⟨h2.bel, h2.own, fun p hp => ?_⟩
  rcases List.mem_cons.1 hp with rfl | hp
  · exact ⟨hf, Nat.le_trans h.size hB, hlt, fun e => by have := (h.own.block _ e).2; dsimp only at this; omega⟩
  · exact h2.prv p hp
theorem BM.new (h : BM (Rep.flat n enc hn) e w l v P wx) (cs : Array Value) (T : TypeId) : BM (Rep.flat n enc hn) e w l v ((wx.heap.size, cellsP cs T) :: P) (wx.alloc (.cells cs T)) :=
  h.block ((Below.refl _ wx).alloc (Nat.le_refl _) _) (Nat.le_refl _) (by simp) (heap_alloc_new wx _)
/-- The list has grown. -/
theorem BM.more {g : Nat} (h : BM (Rep.flat n enc hn) e w l v P wx) (hown : Own (Rep.flat n enc hn) wy w.heap.size w.heap.size e l' v') (hg : wx.grownBy wy v.ownBlock) (hv : v'.ownBlock = some g) (hat : v.ownBlock = some g ∨ g = wx.heap.size) : BM (Rep.flat n enc hn) e w l' v' P wy := by
  refine ⟨h.bel.grown hg h.size (fun k hk => (h.own.block k hk).1), hown, fun p hp => ?_⟩
  obtain ⟨k1, k2, k3, k4⟩ := h.prv p hp
  refine ⟨by rw [hg.block p.1 k3 (fun e => k4 e.symm)]; exact k1, k2, Nat.lt_of_lt_of_le k3 hg.size, ?_⟩
  rw [hv]
  intro e
  injection e with e
  rcases hat with hat | hat
  · exact k4 (by rw [hat, e])
  · omega
/-- A cell of the list has been set. -/
theorem BM.modify {g m cap : Nat} (h : BM (Rep.flat n enc hn) e w l (.slice (some ⟨g, 0, none⟩) m cap) P wx) (f : α → α) (k j : Nat) (u : Value) (hf : ∀ x, enc (f x) = (enc x).set j u) (hj : j < n) (hk : k < l.length) :
    BM (Rep.flat n enc hn) e w (l.modify k f) (.slice (some ⟨g, 0, none⟩) m cap) P (wx.setCell ⟨g, k * n + j, none⟩ u) := by
  have hg := h.own.block g rfl
  refine ⟨belSet h.bel hg.1 u, h.own.modify f k j u hf hj hk, fun p hp => ?_⟩
  obtain ⟨h1, h2, h3, h4⟩ := h.prv p hp
  exact ⟨by rw [Below.heap_setCell wx ⟨g, k * n + j, none⟩ u p.1 (fun e => h4 (by rw [e]; rfl))]; exact h1, h2, by simpa [World.setCell] using h3, h4⟩
/-- What a store into a private block does: to a map, or to cells. -/
theorem BM.poke {b : Nat} {f g : Option Obj → Prop} (h : BM (Rep.flat n enc hn) e w l v ((b, f) :: P) wx) (hd : ∀ p ∈ P, p.1 ≠ b) (hm : g wy.heap[b]?) (hg : wx.grownBy wy (some b)) : BM (Rep.flat n enc hn) e w l v ((b, g) :: P) wy := by
  obtain ⟨h1, h2, h3, h4⟩ := h.prv (b, f) (by simp)
  dsimp only at h1 h2 h3 h4
  refine ⟨h.bel.grown hg h.size (fun k hk => by injection hk with hk; omega), h.own.keepF (fun q hq => hg.block q (h.own.block q hq).2 (fun e => h4 (by rw [hq]; exact e))) hg.size, fun p hp => ?_⟩
  rcases List.mem_cons.1 hp with rfl | hp
  · exact ⟨hm, h2, Nat.lt_of_lt_of_le h3 hg.size, h4⟩
  · obtain ⟨k1, k2, k3, k4⟩ := h.prv p (by simp [hp])
    exact ⟨by rw [hg.block p.1 k3 (fun e => by injection e with e; exact hd p hp e)]; exact k1, k2, Nat.lt_of_lt_of_le k3 hg.size, k4⟩
theorem BM.put {b : Nat} {m m' : List (ByteArray × Value)} (h : BM (Rep.flat n enc hn) e w l v ((b, mapP Value.string m) :: P) wx) (hd : ∀ p ∈ P, p.1 ≠ b) (hm : MapL wy b Value.string m') (hg : wx.grownBy wy (some b)) : BM (Rep.flat n enc hn) e w l v ((b, mapP Value.string m') :: P) wy := h.poke hd hm hg
theorem BM.cell (h : BM (Rep.flat n enc hn) e w l v P wx) {b : Nat} {cs : Array Value} {T : TypeId} (hp : (b, cellsP cs T) ∈ P) : (∀ i, wx.cell? ⟨b, i, none⟩ = cs[i]?) ∧ (∀ i, wx.frozen? ⟨b, i, none⟩ = false) := str_cells (h.prv _ hp).1
theorem BM.map {b : Nat} {κ : Type} {mk : κ → Value} {m : List (κ × Value)} (h : BM (Rep.flat n enc hn) e w l v P wx) (hp : (b, mapP mk m) ∈ P) : MapL wx b mk m := (h.prv _ hp).1
theorem BM.plt (h : BM (Rep.flat n enc hn) e w l v P wx) {b : Nat} {f : Option Obj → Prop} (hp : (b, f) ∈ P) : w.heap.size ≤ b ∧ b < wx.heap.size := ⟨(h.prv _ hp).2.1, (h.prv _ hp).2.2.1⟩
end
end Go.Proofs.YtnemcnpilngblaaDoor

/- Append of one element onto a row of one's own: what the old row holds stays, wherever the new one lies. No program in sight. -/
namespace Go.Proofs.YtnemcnpilngblaaDoor
set_option linter.unusedVariables false
open Go.RowKit

end Go.Proofs.YtnemcnpilngblaaDoor

/- Append of one element, at the operation itself: for regions that draw their order. No program in sight. -/
namespace Go.Proofs.YtnemcnpilngblaaDoor
set_option linter.unusedVariables false
open Go.RowKit

theorem oper_push {P : Program} {α : Type} {R : Rep α} {o : Oper} {a : Act} {K : Act → World → Prop} {Q : Exit → Act → World → Prop} (hgd : o.guard = none) (s x : Operand) (t : TypeId)
    (ho : o.op = .call { callee := .builtin .append, args := #[s, x], argTypes := #[t, t] })
    (base lo : Nat) (e : TypeId) (i : TypeInfo) (z : Value) (bytes : Nat) (ht : P.underlying t = some (.slice e)) (hi : P.info? e = some i) (hz : i.zero = some z)
    (hsize : i.size = R.n) (hby : i.bytes = bytes) (hzs : z.cells.size = R.n) (hsz : 0 < R.n)
    (W : World) (v : Value) (l : List α) (hs : a.eval s = v) (hown : Own R W base lo e l v) (y : α) (cs : List Value) (hy : R.rel W (From W lo v.ownBlock) y cs) (h1 : ∀ u ∈ cs, u.oneCell' = true)
    (B : Nat) (T : TypeId) (c : Nat) (hB : W.heap[B]? = some (.cells cs.toArray T (0, 0))) (hx : a.eval x = .slice (some ⟨B, 0, none⟩) 1 c) (h63 : l.length + 1 ≤ maxLen) (hbytes : (l.length + 1) * bytes ≤ 140737488355328) (hbase : base ≤ W.heap.size)
    (h : ∀ g cap w', Own R w' base lo e (l ++ [y]) (.slice (some ⟨g, 0, none⟩) (l.length + 1) cap) → W.grownBy w' v.ownBlock → (v.ownBlock = some g ∨ g = W.heap.size) → g < w'.heap.size → K (a.put o.dst (.slice (some ⟨g, 0, none⟩) (l.length + 1) cap)) w') :
    Oper.wp P o a W K Q := by
  have h2 := step_push (ops := #[]) (K := K) (Q := Q) (E := False) hgd s x t ho base lo e i z bytes ht hi hz hsize hby hzs hsz W v l hs hown y cs hy h1 B T c hB hx h63 hbytes hbase h
  rw [if_pos (by simp [Region.wanted, hgd])] at h2
  exact h2
end Go.Proofs.YtnemcnpilngblaaDoor

/- The program's functions on rolls and rates. -/
namespace Go.Proofs.YtnemcnpilngblaaDoor
set_option linter.unusedVariables false
open Go.RowKit

end Go.Proofs.YtnemcnpilngblaaDoor

/- The program's functions on rolls, looked up and checked. -/
namespace Go.Proofs.YtnemcnpilngblaaDoor
set_option linter.unusedVariables false
open Go.RowKit

end Go.Proofs.YtnemcnpilngblaaDoor

/- Scripts as they lie in memory. No program in sight. -/
namespace Go.Proofs.YtnemcnpilngblaaDoor
set_option linter.unusedVariables false
open Go.RowKit

structure Para where
  kind : Int
  text : ByteArray
structure Scene where
  no : ByteArray
  place : Int
  set : ByteArray
  time : Int
  paras : List Para
structure Script where
  title : ByteArray
  scenes : List Scene

def Para.cells (p : Para) : List Value := [.int .i64 p.kind, .string p.text]
def paraR : Rep Para := Rep.flat 2 Para.cells (fun _ => rfl)
def Scene.cells (s : Scene) (v : Value) : List Value := [.string s.no, .int .i64 s.place, .string s.set, .int .i64 s.time, v]
theorem para_at {w : World} {F : Nat → Prop} {l : List Para} {A : Option Addr} {n c : Nat} (h : Sli paraR w F l (.slice A n c)) (k : Nat) (hk : k < l.length) :
    ∃ b off, A = some ⟨b, off, none⟩ ∧ F b ∧ w.cell? ⟨b, off + k * 2, none⟩ = some (.int .i64 l[k].kind) ∧ w.cell? ⟨b, off + k * 2 + 1, none⟩ = some (.string l[k].text) := by
  obtain ⟨b, off, a, ea, hb, e, hc⟩ := h.at_ k hk
  have e' : a = Para.cells l[k] := e
  subst e'
  exact ⟨b, off, ea, hb, hc 0 _ rfl, hc 1 _ rfl⟩
theorem str_at {w : World} {F : Nat → Prop} {l : List ByteArray} {A : Option Addr} {n c : Nat} (h : Sli strR w F l (.slice A n c)) (k : Nat) (hk : k < l.length) :
    ∃ b off, A = some ⟨b, off, none⟩ ∧ F b ∧ w.cell? ⟨b, off + k, none⟩ = some (.string l[k]) := by
  obtain ⟨b, off, a, ea, hb, e, hc⟩ := h.at_ k hk
  have e' : a = [.string l[k]] := e
  subst e'
  have := hc 0 _ rfl
  exact ⟨b, off, ea, hb, by simpa [strR, Rep.flat] using this⟩

end Go.Proofs.YtnemcnpilngblaaDoor

/- A region that draws its order, inside a round's fence, one operation at a time. No program in sight. -/
namespace Go.Proofs.YtnemcnpilngblaaDoor
set_option linter.unusedVariables false
open Go.RowKit

theorem wpIn_region_segs2 {n : Nat} {P : Program} {Q : Exit → Act → World → Prop} {id : Nat} {a : Act} {w : World} {l : List Oper} (lv : Nat) (bs fw fr : List Nat) (ss : List (List Nat × List Nat × Nat)) (hm : P.follows .mixedOrders = true) (hd : l.toArray.all (fun o => match o.op with | .defer _ => false | _ => true) = true) (hB : segsOk2 l bs fw fr ss = true) (S : World → Prop) (hS : S w.drew)
    (h : wpSegs2 P l (onlyN (Q .normal)) bs.contains fw fr ss S a w.drew) : (Code.region id l.toArray true).wpIn (Fence.wide.inRound lv) n P Q a w := by
  simp only [segsOk2, Bool.and_eq_true, decide_eq_true_eq] at hB
  obtain ⟨⟨⟨⟨⟨⟨h1, h3⟩, h4⟩, h6⟩, h7⟩, h8⟩, h9⟩ := hB
  refine wpIn_region_out lv hm hd (wpAny_of_T (S := S) (b := bs.contains) (p := pureB l) _ _ _ _ ?_)
  refine Eq.mp (congrArg (fun k => wpAnyT P .any l.toArray (onlyN (Q .normal)) S bs.contains (pureB l) k (Array.replicate l.toArray.size false) a w.drew) h4) ?_
  refine wpT_segs2 h1 (fun _ _ _ _ _ h => h) (reads_of h8) (reads_of h9) ss S _ a w.drew (fun s hs => ?_) h3 (.inl hS) (fun k s hk hn => ?_) h
  · have := List.all_eq_true.1 h6 s hs
    simp only [Bool.and_eq_true] at this
    refine ⟨reads_of this.1.1, reads_of this.1.2, fun o ho => ?_⟩
    have h8 := this.2
    rw [ho] at h8
    simpa using h8
  · have hkl : k < ss.length := (List.getElem?_eq_some_iff.1 hk).1
    have h8 := List.all_eq_true.1 h7 k (List.mem_range.2 hkl)
    rw [hk] at h8
    simp only [Bool.or_eq_true, Bool.and_eq_true] at h8
    rcases h8 with h8 | ⟨h8, h9⟩
    · rw [hn] at h8; cases h8
    · refine ⟨by simpa using h8, fun s' hs' => ?_⟩
      have := List.all_eq_true.1 h9 s' hs'
      simpa using this
end Go.Proofs.YtnemcnpilngblaaDoor

/- A loop over an iterator that keeps its state in a captured box (strings.SplitSeq): the iterator may turn that box between two rounds. No program in sight. -/
namespace Go.Proofs.YtnemcnpilngblaaDoor
set_option linter.unusedVariables false
open Go.RowKit

/-- Three boxes of the iterator's own, from c on, lie as they lay. -/
def KeepC (c : Nat) (W W' : World) : Prop := ∀ k, c ≤ k → k < c + 3 → W'.heap[k]? = W.heap[k]?
theorem KeepC.refl (c : Nat) (W : World) : KeepC c W W := fun _ _ _ => rfl
theorem KeepC.trans {c : Nat} {A B C : World} (h : KeepC c A B) (k : KeepC c B C) : KeepC c A C := fun i h1 h2 => (k i h1 h2).trans (h i h1 h2)
theorem KeepC.grown {c : Nat} {A B : World} {row : Option Nat} (hg : A.grownBy B row) (hc : c + 3 ≤ A.heap.size) (hr : ∀ r, row = some r → r < c ∨ c + 3 ≤ r) : KeepC c A B := fun k h1 h2 =>
  hg.block k (by omega) (fun e => by rcases hr k e.symm with h | h <;> omega)

/-- An iterator whose whole list is 'all': it returns when all have come, the loop's body never leaving. -/
def SeqC {α : Type} (F : Fence) (n : Nat) (P : Program) (g : Nat) (lb : Array Value) (enc : α → Value) (c : Nat) (all : List α) (w : World) : Prop :=
  ∀ (l : Nat) (J : List α → World → Prop) (W : World), Below w.heap.size w W →
    (∀ s A B, J s A → A.grownBy B (some c) → J s B) →
    (∀ pre x W1, J pre W1 → (pre ++ [x]) <+: all → YieldAt F (n - 1) P l #[enc x] W1 fun e W' => e = .returned (.bool true) ∧ J (pre ++ [x]) W' ∧ KeepC c W1 W') →
    J [] W →
    CallsIn F n P g (#[.func (.yield l) #[] #[]] ++ lb) W fun e W' => (∃ v, e = .returned v) ∧ J all W'

def postC {α : Type} (c : Nat) (I : List α → World → Prop) (xs : List α) (W : World) : Exit → Act → World → Prop
  | .normal, _, W' => KeepsOthers W W' ∧ KeepC c W W' ∧ I xs W'
  | _, _, _ => False

variable {F : Fence} {n : Nat} {P : Program}

theorem wpIn_seqC {α : Type} {g : Operand} {ps : Array Tmp} {assign body : Code} {Q : Exit → Act → World → Prop} {a : Act} {w : World}
    (hro : F.round = none) (h1 : 1 ≤ n) {gf : Nat} {lb : Array Value} (hg : a.eval g = .func (.func gf) #[] lb) (hFg : F.fn gf) (eg : ∀ args w, (callFunc gf args).run P w = .ok (.enter gf args) w)
    {enc : α → Value} {c : Nat} {all : List α} {w0 : World} (hseq : SeqC F (n - 1) P gf lb enc c all w0) (hc : c + 3 ≤ w.heap.size) (hb0 : Below w0.heap.size w0 w) (hps : 1 = ps.size)
    (I : List α → World → Prop) (hI : OwnFrom w.heap.size I) (hIc : ∀ s A B, I s A → A.grownBy B (some c) → I s B) (h0 : I [] w) (a₁ : α → Act)
    (hassign : ∀ (l : Nat) (x : α) (W : World) (K : Act → World → Prop), K (a₁ x) W →
      assign.wpIn (F.inRound l) (n - 1 - 1) P (Exit.then K (fun _ _ _ => False)) { tmps := (ps.zip #[enc x]).foldl (fun t (p, v) => t.setIfInBounds p v) a.tmps, defers := [] } W)
    (hbody : ∀ (l : Nat) (pre : List α) (x : α) (W : World), I pre W → (pre ++ [x]) <+: all → body.wpIn (F.inRound l) (n - 1 - 1) P (postC c I (pre ++ [x]) W) (a₁ x) W)
    (hdone : ∀ (D : Nat) (W : World), w.heap.size ≤ D → I all W → W.heap[D]? = some (.deferred (some [])) → Q .normal { a with defers := { target := .collected D, args := #[] } :: a.defers } W) :
    (Code.rangeFunc g ps assign body).wpIn F n P Q a w := by
  refine wpIn_rangeFunc fun fn hfn => ?_
  rw [hro]
  -- the loop's record at D + 1, the block for deferred calls at D
  obtain ⟨D, hD⟩ : ∃ D, D = w.heap.size := ⟨_, rfl⟩
  obtain ⟨rec, hrec⟩ : ∃ rec : LoopState → Loop, rec = fun st => { state := st, pending := none, fn, tmps := a.tmps, params := ps, assign, body, defers := w.heap.size } := ⟨_, rfl⟩
  have hI1 : I [] ((w.alloc (.deferred (some []))).alloc (.loop (rec .ready))) := hI.alloc _ (hI.alloc _ h0)
  have hL1 : ((w.alloc (.deferred (some []))).alloc (.loop (rec .ready))).heap[D + 1]? = some (.loop (rec .ready)) := by
    have := World.alloc_heap_new (w.alloc (.deferred (some []))) (.loop (rec .ready))
    rw [World.size_alloc] at this
    rw [hD]; exact this
  have hK1 : ((w.alloc (.deferred (some []))).alloc (.loop (rec .ready))).heap[D]? = some (.deferred (some [])) := by
    rw [hD]
    exact (Below.heap_alloc _ _ _ (by simp)).trans (World.alloc_heap_new w _)
  have hb1 : Below w0.heap.size w0 ((w.alloc (.deferred (some []))).alloc (.loop (rec .ready))) :=
    hb0.trans ((((Below.refl _ w).alloc (Nat.le_refl _) _).alloc (by simp) _).mono hb0.size)
  have hrun : (Instr.enterLoop fn a.tmps ps assign body none).run P w = .ok (D + 1, [{ target := .collected D, args := #[] }]) ((w.alloc (.deferred (some []))).alloc (.loop (rec .ready))) := by
    rw [hD, hrec]; exact run_enterLoop_outer _ _ _ _ _
  generalize (w.alloc (.deferred (some []))).alloc (.loop (rec .ready)) = W1 at hI1 hL1 hK1 hb1 hrun
  refine ⟨D + 1, [{ target := .collected D, args := #[] }], W1, { target := .fn (.func gf) lb, args := #[.func (.yield (D + 1)) #[] #[]] }, W1, gf,
    #[.func (.yield (D + 1)) #[] #[]] ++ lb, W1, hrun, ?_, ?_, ?_, fun _ => h1, ?_⟩
  · simp only [resolve, hg]
    simp [go_sem]
  · intro f' hf'; simp [Target.leads] at hf'; subst hf'; exact hFg
  · simp [invoke, go_sem, eg]
  · refine (hseq (D + 1)
      (fun pre W => I pre W ∧ W.heap[D + 1]? = some (.loop (rec .ready)) ∧ W.heap[D]? = some (.deferred (some [])))
      W1 hb1 ?_ ?_ ⟨hI1, hL1, hK1⟩).mono ?_
    · rintro s A B ⟨hi, hl, hk⟩ hg'
      have l1 := (Array.getElem?_eq_some_iff.1 hl).1
      exact ⟨hIc s A B hi hg', (hg'.block _ l1 (fun e => by cases e; omega)).trans hl, (hg'.block _ (by omega) (fun e => by cases e; omega)).trans hk⟩
    · -- one round
      rintro pre x W ⟨hi, hl, hk⟩ hpre
      have hlt : D + 1 < W.heap.size := (Array.getElem?_eq_some_iff.1 hl).1
      have hy := run_yield (P := P) (args := #[enc x]) hl (by rw [hrec]; exact hps)
      have hst : (rec .ready).state = .ready := by rw [hrec]
      have hy' : (Instr.yield (D + 1) #[enc x]).run P W = .ok (.round (D + 1) fn ((ps.zip #[enc x]).foldl (fun t (p, v) => t.setIfInBounds p v) a.tmps) assign body) W := by
        rw [hrec] at hy; exact hy
      have hbusy : ({ rec .ready with state := .busy } : Loop) = rec .busy := by rw [hrec]
      refine ⟨fn, _, assign, body, hy', roundIn_of_wpIn hfn (hassign _ x W _ ⟨_, run_beginRound hl hst, ?_⟩)⟩
      rw [hbusy]
      have hg2 : W.grownBy (W.putObj (D + 1) (.loop (rec .busy))) (some (D + 1)) := grownBy_putObj' W (D + 1) _
      have hl2 : (W.putObj (D + 1) (.loop (rec .busy))).heap[D + 1]? = some (.loop (rec .busy)) := World.putObj_heap_same hlt
      have hk2 : (W.putObj (D + 1) (.loop (rec .busy))).heap[D]? = some (.deferred (some [])) := (World.putObj_heap_other (by omega)).trans hk
      have hc2 : KeepC c W (W.putObj (D + 1) (.loop (rec .busy))) := KeepC.grown hg2 (by omega) (fun r e => by cases e; omega)
      have hi2 : I pre (W.putObj (D + 1) (.loop (rec .busy))) := hI.putObj _ hi (by omega) hl rfl
      generalize W.putObj (D + 1) (.loop (rec .busy)) = W2 at hg2 hl2 hk2 hc2 hi2
      refine wpIn_mono (hbody _ pre x _ hi2 hpre) ?_
      rintro e a3 W3 hp
      cases e with
      | normal =>
        obtain ⟨hk3, hkc3, hi3⟩ := hp
        have hl3 := hk3.same _ _ hl2 rfl
        have hd3 := hk3.same _ _ hk2 rfl
        have hlt3 := (Array.getElem?_eq_some_iff.1 hl3).1
        have hr := run_endRound (P := P) none hl3
        have hready : ({ rec .busy with state := .ready, pending := none } : Loop) = rec .ready := by rw [hrec]
        simp only [Option.isNone_none, if_true] at hr
        rw [hready] at hr
        exact ⟨_, _, hr, rfl, ⟨hI.putObj _ hi3 (by omega) hl3 rfl, World.putObj_heap_same hlt3, (World.putObj_heap_other (by omega)).trans hd3⟩,
          (hc2.trans hkc3).trans (KeepC.grown (grownBy_putObj' W3 (D + 1) _) (by omega) (fun r e => by cases e; omega))⟩
      | _ => exact hp.elim
    · rintro e W2 ⟨⟨v, rfl⟩, hi, hl, hk⟩
      have hne : (rec .ready).state ≠ .busy := by rw [hrec]; simp
      refine ⟨none, _, ?_, hdone D _ (by omega) (hI.putObj (.loop { rec .ready with state := .exhausted }) hi (by omega) hl rfl) ((World.putObj_heap_other (by omega)).trans hk)⟩
      have := run_endLoop (P := P) hl hne
      rw [hrec] at this ⊢
      exact this
end Go.Proofs.YtnemcnpilngblaaDoor

/- What a piece of a walk keeps: blocks below m, but for some boxes that it writes. No program in sight. -/
namespace Go.Proofs.YtnemcnpilngblaaDoor
set_option linter.unusedVariables false
open Go.RowKit

structure KeepM (m : Nat) (X : Nat → Prop) (W W' : World) : Prop where
  os : W'.os = W.os
  tape : W'.tape = W.tape
  output : W'.output = W.output
  size : W.heap.size ≤ W'.heap.size
  block : ∀ k, k < m → ¬ X k → W'.heap[k]? = W.heap[k]?
  others : KeepsOthers W W'
variable {m : Nat} {X : Nat → Prop} {A W W' : World}
theorem KeepM.refl (m : Nat) (X : Nat → Prop) (W : World) : KeepM m X W W := ⟨rfl, rfl, rfl, Nat.le_refl _, fun _ _ _ => rfl, KeepsOthers.refl _⟩
theorem KeepM.trans (h : KeepM m X A W) (k : KeepM m X W W') : KeepM m X A W' :=
  ⟨k.os.trans h.os, k.tape.trans h.tape, k.output.trans h.output, Nat.le_trans h.size k.size, fun i hi hx => (k.block i hi hx).trans (h.block i hi hx), h.others.trans k.others⟩
theorem KeepM.alloc (h : KeepM m X A W) (hm : m ≤ W.heap.size) (o : Obj) : KeepM m X A (W.alloc o) :=
  h.trans ⟨rfl, rfl, rfl, by simp, fun k hk _ => Below.heap_alloc W o k (by omega), KeepsOthers.alloc W o⟩
theorem KeepM.drew (h : KeepM m X A W) : KeepM m X A W.drew := h.trans ⟨rfl, rfl, rfl, Nat.le_refl _, fun _ _ _ => rfl, ⟨Nat.le_refl _, fun _ _ h _ => h⟩⟩
theorem KeepM.put (h : KeepM m X A W) {B : Nat} (hB : X B) (v : Value) : KeepM m X A (W.setCell ⟨B, 0, none⟩ v) :=
  h.trans ⟨rfl, rfl, rfl, (grownBy_setCell' W B v).size, fun k _ hx => Below.heap_setCell W _ v k (fun e => hx (by cases e; exact hB)), KeepsOthers.setCell _ _ _⟩
theorem KeepM.grown (h : KeepM m X A W) (hm : m ≤ W.heap.size) {v : Value} {e : TypeId} {size k : Nat} {xs : List Value} (hrow : W.ownsRow m e size v k xs) (hg : W.grownBy W' v.ownBlock) : KeepM m X A W' := by
  refine h.trans ⟨hg.os, hg.tape, hg.output, hg.size, fun i hi _ => hg.block i (by omega) (fun ei => ?_), KeepsOthers.of_grownBy hg fun j o ej hj => ?_⟩
  · rcases hrow.2 with ⟨rfl, _⟩ | ⟨g, cap, cur, rfl, hgb, _, _⟩
    · simp [Value.ownBlock] at ei
    · obtain rfl : i = g := by simpa [Value.ownBlock] using ei
      omega
  · rcases hrow.2 with ⟨rfl, _⟩ | ⟨g, cap, cur, rfl, _, hgb, _⟩
    · simp [Value.ownBlock] at ej
    · obtain rfl : g = j := by simpa [Value.ownBlock] using ej
      rw [hgb] at hj; cases hj; rfl
theorem KeepM.box {B : Nat} {t : TypeId} {v : Value} (h : KeepM m X W W') (hv : Boxed W B t v) (h1 : B < m) (h2 : ¬ X B) : Boxed W' B t v := (h.block B h1 h2).trans hv
theorem KeepM.below {n₀ : Nat} (h : KeepM m X W W') (h1 : n₀ ≤ m) (h2 : ∀ k, k < n₀ → ¬ X k) : Below n₀ W W' := ⟨h.os, h.tape, h.output, h.size, fun k hk => h.block k (by omega) (h2 k hk)⟩
theorem KeepM.keepC {c : Nat} (h : KeepM m X W W') (h1 : c + 3 ≤ m) (h2 : ∀ k, c ≤ k → k < c + 3 → ¬ X k) : KeepC c W W' := fun k a b => h.block k (by omega) (h2 k a b)
theorem KeepM.wide {X' : Nat → Prop} (h : KeepM m X W W') (hx : ∀ k, X k → X' k) : KeepM m X' W W' := ⟨h.os, h.tape, h.output, h.size, fun k hk hn => h.block k hk (fun e => hn (hx k e)), h.others⟩
/-- A row that begins behind m abides what happens to boxes below m. -/
theorem rowPut {W : World} {m B : Nat} {e : TypeId} {size k : Nat} {v x : Value} {xs : List Value} (hrow : W.ownsRow m e size v k xs) (hB : B < m) : (W.setCell ⟨B, 0, none⟩ x).ownsRow m e size v k xs := by
  refine hrow.kept (grownBy_setCell' W B x) (.inr fun ei => ?_)
  rcases hrow.2 with ⟨rfl, _⟩ | ⟨g, cap, cur, rfl, hgb, _, _⟩
  · simp [Value.ownBlock] at ei
  · obtain rfl : g = B := by simpa [Value.ownBlock] using ei
    omega
end Go.Proofs.YtnemcnpilngblaaDoor

/- The shelf contracts that these proofs use, laid at this translation. -/
namespace Go.Proofs
open Go.Shelf
def Tryd.lays156_ren : Go.Shelf.Ren := ⟨fun | 156 => 19 | 165 => 31 | 166 => 32 | 169 => 33 | 240 => 46 | 241 => 47 | 276 => 69 | 277 => 70 | n => n, fun | 31 => 22 | 9 => 9 | 3 => 3 | 4 => 4 | 0 => 0 | 20 => 20 | 72 => 63 | 76 => 67 | 70 => 60 | 37 => 61 | 75 => 66 | 127 => 85 | 164 => 108 | 5 => 5 | 80 => 69 | n => n, fun | n => n⟩
theorem Tryd.lays156 : Go.Proofs.Lays.n156 Tryd.prog Tryd.lays156_ren := {
  mixed := by kernel_rfl
  f156 := Tryd.func19.trans (congrArg some (by kernel_rfl))
  f165 := Tryd.func31.trans (congrArg some (by kernel_rfl))
  f166 := Tryd.func32.trans (congrArg some (by kernel_rfl))
  f169 := Tryd.func33.trans (congrArg some (by kernel_rfl))
  f240 := Tryd.func46.trans (congrArg some (by kernel_rfl))
  f241 := Tryd.func47.trans (congrArg some (by kernel_rfl))
  f276 := Tryd.func69.trans (congrArg some (by kernel_rfl))
  f277 := Tryd.func70.trans (congrArg some (by kernel_rfl))
  t0 := Tryd.underlying0
  a0 := Tryd.isAgg0
  z0 := Tryd.sizeOf0
  v0 := Tryd.zeroValue0
  t3 := Tryd.underlying3
  a3 := Tryd.isAgg3
  z3 := Tryd.sizeOf3
  v3 := Tryd.zeroValue3
  t4 := Tryd.underlying4
  a4 := Tryd.isAgg4
  z4 := Tryd.sizeOf4
  v4 := Tryd.zeroValue4
  t9 := Tryd.underlying9
  a9 := Tryd.isAgg9
  z9 := Tryd.sizeOf9
  v9 := Tryd.zeroValue9
  t20 := Tryd.underlying20
  a20 := Tryd.isAgg20
  z20 := Tryd.sizeOf20
  v20 := Tryd.zeroValue20
  t31 := Tryd.underlying22
  a31 := Tryd.isAgg22
  z31 := Tryd.sizeOf22
  v31 := Tryd.zeroValue22
  t37 := Tryd.underlying61
  a37 := Tryd.isAgg61
  z37 := Tryd.sizeOf61
  v37 := Tryd.zeroValue61
  t70 := Tryd.underlying60
  a70 := Tryd.isAgg60
  z70 := Tryd.sizeOf60
  v70 := Tryd.zeroValue60
  t72 := Tryd.underlying63
  a72 := Tryd.isAgg63
  z72 := Tryd.sizeOf63
  v72 := Tryd.zeroValue63
  t75 := Tryd.underlying66
  a75 := Tryd.isAgg66
  z75 := Tryd.sizeOf66
  v75 := Tryd.zeroValue66
  t76 := Tryd.underlying67
  a76 := Tryd.isAgg67
  z76 := Tryd.sizeOf67
  v76 := Tryd.zeroValue67
  t127 := Tryd.underlying85
  a127 := Tryd.isAgg85
  z127 := Tryd.sizeOf85
  v127 := Tryd.zeroValue85
  t164 := Tryd.underlying108
  a164 := Tryd.isAgg108
  z164 := Tryd.sizeOf108
  v164 := Tryd.zeroValue108 }
theorem Tryd.Builder_Extra_156 : Builder.Extra Tryd.prog Tryd.lays156_ren := {
  sizeBuilder := by kernel_rfl
  liesBuilder := by kernel_rfl
  t5 := Tryd.underlying5
  a5 := Tryd.isAgg5
  z5 := Tryd.sizeOf5
  v5 := Tryd.zeroValue5
  infoByte := by kernel_rfl
  cellsByte := by kernel_rfl
  sizeByte := by kernel_rfl
  neB5 := by decide }
def Tryd.lays137_ren : Go.Shelf.Ren := ⟨fun | 137 => 51 | 217 => 64 | 266 => 79 | n => n, fun | 9 => 9 | 5 => 5 | 3 => 3 | n => n, fun | n => n⟩
theorem Tryd.lays137 : Go.Proofs.Lays.n137 Tryd.prog Tryd.lays137_ren := {
  mixed := by kernel_rfl
  f137 := Tryd.func51.trans (congrArg some (by kernel_rfl))
  f217 := Tryd.func64.trans (congrArg some (by kernel_rfl))
  f266 := Tryd.func79.trans (congrArg some (by kernel_rfl))
  t3 := Tryd.underlying3
  a3 := Tryd.isAgg3
  z3 := Tryd.sizeOf3
  v3 := Tryd.zeroValue3
  t5 := Tryd.underlying5
  a5 := Tryd.isAgg5
  z5 := Tryd.sizeOf5
  v5 := Tryd.zeroValue5
  t9 := Tryd.underlying9
  a9 := Tryd.isAgg9
  z9 := Tryd.sizeOf9
  v9 := Tryd.zeroValue9 }
open Go.RowKit in
theorem Tryd.strings_IndexByte (s : ByteArray) (c : Int) (w : World) :
    Calls Tryd.prog 51 #[.string s, .int .u8 c] w fun e w' => e = .returned (.int .i64 (Lib.indexByte s.data.toList c.toNat.toUInt8)) ∧ w' = w := Any.strings_IndexByte Tryd.lays137 s c w
def Tryd.lays103_ren : Go.Shelf.Ren := ⟨fun | 103 => 22 | 210 => 37 | 206 => 27 | n => n, fun | 9 => 9 | 4 => 4 | 24 => 51 | 3 => 3 | n => n, fun | n => n⟩
theorem Tryd.lays103 : Go.Proofs.Lays.n103 Tryd.prog Tryd.lays103_ren := {
  mixed := by kernel_rfl
  f103 := Tryd.func22.trans (congrArg some (by kernel_rfl))
  f206 := Tryd.func27.trans (congrArg some (by kernel_rfl))
  f210 := Tryd.func37.trans (congrArg some (by kernel_rfl))
  t3 := Tryd.underlying3
  a3 := Tryd.isAgg3
  z3 := Tryd.sizeOf3
  v3 := Tryd.zeroValue3
  t4 := Tryd.underlying4
  a4 := Tryd.isAgg4
  z4 := Tryd.sizeOf4
  v4 := Tryd.zeroValue4
  t9 := Tryd.underlying9
  a9 := Tryd.isAgg9
  z9 := Tryd.sizeOf9
  v9 := Tryd.zeroValue9
  t24 := Tryd.underlying51
  a24 := Tryd.isAgg51
  z24 := Tryd.sizeOf51
  v24 := Tryd.zeroValue51 }
open Go.RowKit in
theorem Tryd.strings_CutPrefix (s p : ByteArray) (w : World) :
    Calls Tryd.prog 22 #[.string s, .string p] w fun e w' => e = .returned (.tuple #[.string ⟨(Lib.trimPrefix s.data.toList p.data.toList).toArray⟩, .bool (Lib.hasPrefix s.data.toList p.data.toList)]) ∧ w' = w := Any.strings_CutPrefix Tryd.lays103 s p w
def Tryd.lays219_ren : Go.Shelf.Ren := ⟨fun | 219 => 43 | 217 => 64 | 225 => 65 | 224 => 66 | 267 => 67 | 266 => 79 | 314 => 80 | n => n, fun | 9 => 9 | 3 => 3 | 4 => 4 | 5 => 5 | 46 => 107 | 146 => 119 | 51 => 80 | n => n, fun | 1 => 2 | n => n⟩
theorem Tryd.lays219 : Go.Proofs.Lays.n219 Tryd.prog Tryd.lays219_ren := {
  mixed := by kernel_rfl
  f217 := Tryd.func64.trans (congrArg some (by kernel_rfl))
  f219 := Tryd.func43.trans (congrArg some (by kernel_rfl))
  f224 := Tryd.func66.trans (congrArg some (by kernel_rfl))
  f225 := Tryd.func65.trans (congrArg some (by kernel_rfl))
  f266 := Tryd.func79.trans (congrArg some (by kernel_rfl))
  f267 := Tryd.func67.trans (congrArg some (by kernel_rfl))
  f314 := Tryd.func80.trans (congrArg some (by kernel_rfl))
  t3 := Tryd.underlying3
  a3 := Tryd.isAgg3
  z3 := Tryd.sizeOf3
  v3 := Tryd.zeroValue3
  t4 := Tryd.underlying4
  a4 := Tryd.isAgg4
  z4 := Tryd.sizeOf4
  v4 := Tryd.zeroValue4
  t5 := Tryd.underlying5
  a5 := Tryd.isAgg5
  z5 := Tryd.sizeOf5
  v5 := Tryd.zeroValue5
  t9 := Tryd.underlying9
  a9 := Tryd.isAgg9
  z9 := Tryd.sizeOf9
  v9 := Tryd.zeroValue9
  t46 := Tryd.underlying107
  a46 := Tryd.isAgg107
  z46 := Tryd.sizeOf107
  v46 := Tryd.zeroValue107
  t51 := Tryd.underlying80
  a51 := Tryd.isAgg80
  z51 := Tryd.sizeOf80
  v51 := Tryd.zeroValue80
  t146 := Tryd.underlying119
  a146 := Tryd.isAgg119
  z146 := Tryd.sizeOf119
  v146 := Tryd.zeroValue119
  g1 := by kernel_rfl }
open Go.RowKit Go.Lib in
theorem Tryd.stringslite_Index_one (s : ByteArray) (c : UInt8) (w : World) :
    Calls Tryd.prog 43 #[.string s, .string ⟨#[c]⟩] w fun e w' => e = .returned (.int .i64 (Lib.indexByte s.data.toList c)) ∧ w' = w := Any.stringslite_Index_one Tryd.lays219 s c w
def Tryd.lays143_ren : Go.Shelf.Ren := ⟨fun | 143 => 29 | 219 => 43 | 217 => 64 | 225 => 65 | 224 => 66 | 267 => 67 | 266 => 79 | 314 => 80 | n => n, fun | 9 => 9 | 3 => 3 | 4 => 4 | 5 => 5 | 46 => 107 | 146 => 119 | 51 => 80 | n => n, fun | 1 => 2 | n => n⟩
theorem Tryd.lays143 : Go.Proofs.Lays.n143 Tryd.prog Tryd.lays143_ren := {
  mixed := by kernel_rfl
  f143 := Tryd.func29.trans (congrArg some (by kernel_rfl))
  f217 := Tryd.func64.trans (congrArg some (by kernel_rfl))
  f219 := Tryd.func43.trans (congrArg some (by kernel_rfl))
  f224 := Tryd.func66.trans (congrArg some (by kernel_rfl))
  f225 := Tryd.func65.trans (congrArg some (by kernel_rfl))
  f266 := Tryd.func79.trans (congrArg some (by kernel_rfl))
  f267 := Tryd.func67.trans (congrArg some (by kernel_rfl))
  f314 := Tryd.func80.trans (congrArg some (by kernel_rfl))
  t3 := Tryd.underlying3
  a3 := Tryd.isAgg3
  z3 := Tryd.sizeOf3
  v3 := Tryd.zeroValue3
  t4 := Tryd.underlying4
  a4 := Tryd.isAgg4
  z4 := Tryd.sizeOf4
  v4 := Tryd.zeroValue4
  t5 := Tryd.underlying5
  a5 := Tryd.isAgg5
  z5 := Tryd.sizeOf5
  v5 := Tryd.zeroValue5
  t9 := Tryd.underlying9
  a9 := Tryd.isAgg9
  z9 := Tryd.sizeOf9
  v9 := Tryd.zeroValue9
  t46 := Tryd.underlying107
  a46 := Tryd.isAgg107
  z46 := Tryd.sizeOf107
  v46 := Tryd.zeroValue107
  t51 := Tryd.underlying80
  a51 := Tryd.isAgg80
  z51 := Tryd.sizeOf80
  v51 := Tryd.zeroValue80
  t146 := Tryd.underlying119
  a146 := Tryd.isAgg119
  z146 := Tryd.sizeOf119
  v146 := Tryd.zeroValue119
  g1 := by kernel_rfl }
open Go.RowKit Go.Lib in
theorem Tryd.strings_Index_one (s : ByteArray) (c : UInt8) (w : World) :
    Calls Tryd.prog 29 #[.string s, .string ⟨#[c]⟩] w fun e w' => e = .returned (.int .i64 (Lib.indexByte s.data.toList c)) ∧ w' = w := Any.strings_Index_one Tryd.lays143 s c w
def Tryd.lays144_ren : Go.Shelf.Ren := ⟨fun | 144 => 17 | 143 => 29 | 219 => 43 | 217 => 64 | 225 => 65 | 224 => 66 | 267 => 67 | 266 => 79 | 314 => 80 | n => n, fun | 9 => 9 | 4 => 4 | 3 => 3 | 5 => 5 | 46 => 107 | 146 => 119 | 51 => 80 | n => n, fun | 1 => 2 | n => n⟩
theorem Tryd.lays144 : Go.Proofs.Lays.n144 Tryd.prog Tryd.lays144_ren := {
  mixed := by kernel_rfl
  f143 := Tryd.func29.trans (congrArg some (by kernel_rfl))
  f144 := Tryd.func17.trans (congrArg some (by kernel_rfl))
  f217 := Tryd.func64.trans (congrArg some (by kernel_rfl))
  f219 := Tryd.func43.trans (congrArg some (by kernel_rfl))
  f224 := Tryd.func66.trans (congrArg some (by kernel_rfl))
  f225 := Tryd.func65.trans (congrArg some (by kernel_rfl))
  f266 := Tryd.func79.trans (congrArg some (by kernel_rfl))
  f267 := Tryd.func67.trans (congrArg some (by kernel_rfl))
  f314 := Tryd.func80.trans (congrArg some (by kernel_rfl))
  t3 := Tryd.underlying3
  a3 := Tryd.isAgg3
  z3 := Tryd.sizeOf3
  v3 := Tryd.zeroValue3
  t4 := Tryd.underlying4
  a4 := Tryd.isAgg4
  z4 := Tryd.sizeOf4
  v4 := Tryd.zeroValue4
  t5 := Tryd.underlying5
  a5 := Tryd.isAgg5
  z5 := Tryd.sizeOf5
  v5 := Tryd.zeroValue5
  t9 := Tryd.underlying9
  a9 := Tryd.isAgg9
  z9 := Tryd.sizeOf9
  v9 := Tryd.zeroValue9
  t46 := Tryd.underlying107
  a46 := Tryd.isAgg107
  z46 := Tryd.sizeOf107
  v46 := Tryd.zeroValue107
  t51 := Tryd.underlying80
  a51 := Tryd.isAgg80
  z51 := Tryd.sizeOf80
  v51 := Tryd.zeroValue80
  t146 := Tryd.underlying119
  a146 := Tryd.isAgg119
  z146 := Tryd.sizeOf119
  v146 := Tryd.zeroValue119
  g1 := by kernel_rfl }
open Go.RowKit Go.Lib in
theorem Tryd.strings_Contains (s sub : ByteArray) (m : Int) (w : World) (hs : s.size < 4294967281) (hm : w.cell? ⟨2, 0, none⟩ = some (.int .i64 m)) :
    Calls Tryd.prog 17 #[.string s, .string sub] w fun e w' => e = .returned (.bool (Lib.contains s.data.toList sub.data.toList)) ∧ w' = w := Any.strings_Contains Tryd.lays144 s sub m w hs hm
def Tryd.lays148_ren : Go.Shelf.Ren := ⟨fun | 148 => 74 | 222 => 82 | 223 => 83 | 269 => 85 | n => n, fun | 9 => 9 | 3 => 3 | 4 => 4 | 5 => 5 | 146 => 119 | 51 => 80 | 46 => 107 | n => n, fun | n => n⟩
theorem Tryd.lays148 : Go.Proofs.Lays.n148 Tryd.prog Tryd.lays148_ren := {
  mixed := by kernel_rfl
  f148 := Tryd.func74.trans (congrArg some (by kernel_rfl))
  f222 := Tryd.func82.trans (congrArg some (by kernel_rfl))
  f223 := Tryd.func83.trans (congrArg some (by kernel_rfl))
  f269 := Tryd.func85.trans (congrArg some (by kernel_rfl))
  t3 := Tryd.underlying3
  a3 := Tryd.isAgg3
  z3 := Tryd.sizeOf3
  v3 := Tryd.zeroValue3
  t4 := Tryd.underlying4
  a4 := Tryd.isAgg4
  z4 := Tryd.sizeOf4
  v4 := Tryd.zeroValue4
  t5 := Tryd.underlying5
  a5 := Tryd.isAgg5
  z5 := Tryd.sizeOf5
  v5 := Tryd.zeroValue5
  t9 := Tryd.underlying9
  a9 := Tryd.isAgg9
  z9 := Tryd.sizeOf9
  v9 := Tryd.zeroValue9
  t46 := Tryd.underlying107
  a46 := Tryd.isAgg107
  z46 := Tryd.sizeOf107
  v46 := Tryd.zeroValue107
  t51 := Tryd.underlying80
  a51 := Tryd.isAgg80
  z51 := Tryd.sizeOf80
  v51 := Tryd.zeroValue80
  t146 := Tryd.underlying119
  a146 := Tryd.isAgg119
  z146 := Tryd.sizeOf119
  v146 := Tryd.zeroValue119 }
open Go.RowKit Go.Lib in
theorem Tryd.strings_LastIndex (s sub : ByteArray) (hs : s.size < 4611686018427387904) (w : World) :
    Calls Tryd.prog 74 #[.string s, .string sub] w fun e w' => e = .returned (.int .i64 (Lib.lastIndex s.data.toList sub.data.toList)) ∧ w' = w := Any.strings_LastIndex Tryd.lays148 s sub hs w
def Tryd.lays99_ren : Go.Shelf.Ren := ⟨fun | 99 => 15 | 206 => 27 | n => n, fun | 9 => 9 | 4 => 4 | 3 => 3 | n => n, fun | n => n⟩
theorem Tryd.lays99 : Go.Proofs.Lays.n99 Tryd.prog Tryd.lays99_ren := {
  mixed := by kernel_rfl
  f99 := Tryd.func15.trans (congrArg some (by kernel_rfl))
  f206 := Tryd.func27.trans (congrArg some (by kernel_rfl))
  t3 := Tryd.underlying3
  a3 := Tryd.isAgg3
  z3 := Tryd.sizeOf3
  v3 := Tryd.zeroValue3
  t4 := Tryd.underlying4
  a4 := Tryd.isAgg4
  z4 := Tryd.sizeOf4
  v4 := Tryd.zeroValue4
  t9 := Tryd.underlying9
  a9 := Tryd.isAgg9
  z9 := Tryd.sizeOf9
  v9 := Tryd.zeroValue9 }
open Go.RowKit Go.Lib in
theorem Tryd.strings_HasPrefix (s p : ByteArray) (w : World) :
    Calls Tryd.prog 15 #[.string s, .string p] w fun e w' => e = .returned (.bool (Lib.hasPrefix s.data.toList p.data.toList)) ∧ w' = w := Any.strings_HasPrefix Tryd.lays99 s p w
def Tryd.lays100_ren : Go.Shelf.Ren := ⟨fun | 100 => 16 | 207 => 28 | n => n, fun | 9 => 9 | 4 => 4 | 3 => 3 | n => n, fun | n => n⟩
theorem Tryd.lays100 : Go.Proofs.Lays.n100 Tryd.prog Tryd.lays100_ren := {
  mixed := by kernel_rfl
  f100 := Tryd.func16.trans (congrArg some (by kernel_rfl))
  f207 := Tryd.func28.trans (congrArg some (by kernel_rfl))
  t3 := Tryd.underlying3
  a3 := Tryd.isAgg3
  z3 := Tryd.sizeOf3
  v3 := Tryd.zeroValue3
  t4 := Tryd.underlying4
  a4 := Tryd.isAgg4
  z4 := Tryd.sizeOf4
  v4 := Tryd.zeroValue4
  t9 := Tryd.underlying9
  a9 := Tryd.isAgg9
  z9 := Tryd.sizeOf9
  v9 := Tryd.zeroValue9 }
open Go.RowKit Go.Lib in
theorem Tryd.strings_HasSuffix (s p : ByteArray) (w : World) (hs : s.size ≤ 9223372036854775807) :
    Calls Tryd.prog 16 #[.string s, .string p] w fun e w' => e = .returned (.bool (Lib.hasSuffix s.data.toList p.data.toList)) ∧ w' = w := Any.strings_HasSuffix Tryd.lays100 s p w hs
def Tryd.lays146_ren : Go.Shelf.Ren := ⟨fun | 146 => 20 | 221 => 34 | 268 => 48 | 138 => 49 | 143 => 29 | 195 => 71 | 197 => 45 | 218 => 72 | 219 => 43 | 260 => 68 | 217 => 64 | 225 => 65 | 224 => 66 | 267 => 67 | 266 => 79 | 314 => 80 | n => n, fun | 9 => 9 | 31 => 22 | 3 => 3 | 4 => 4 | 0 => 0 | 105 => 83 | 21 => 21 | 5 => 5 | 46 => 107 | 119 => 55 | 139 => 123 | 138 => 122 | 146 => 119 | 51 => 80 | n => n, fun | 1 => 2 | 3 => 3 | 4 => 4 | n => n⟩
theorem Tryd.lays146 : Go.Proofs.Lays.n146 Tryd.prog Tryd.lays146_ren := {
  mixed := by kernel_rfl
  f138 := Tryd.func49.trans (congrArg some (by kernel_rfl))
  f143 := Tryd.func29.trans (congrArg some (by kernel_rfl))
  f146 := Tryd.func20.trans (congrArg some (by kernel_rfl))
  f195 := Tryd.func71.trans (congrArg some (by kernel_rfl))
  f197 := Tryd.func45.trans (congrArg some (by kernel_rfl))
  f217 := Tryd.func64.trans (congrArg some (by kernel_rfl))
  f218 := Tryd.func72.trans (congrArg some (by kernel_rfl))
  f219 := Tryd.func43.trans (congrArg some (by kernel_rfl))
  f221 := Tryd.func34.trans (congrArg some (by kernel_rfl))
  f224 := Tryd.func66.trans (congrArg some (by kernel_rfl))
  f225 := Tryd.func65.trans (congrArg some (by kernel_rfl))
  f260 := Tryd.func68.trans (congrArg some (by kernel_rfl))
  f266 := Tryd.func79.trans (congrArg some (by kernel_rfl))
  f267 := Tryd.func67.trans (congrArg some (by kernel_rfl))
  f268 := Tryd.func48.trans (congrArg some (by kernel_rfl))
  f314 := Tryd.func80.trans (congrArg some (by kernel_rfl))
  t0 := Tryd.underlying0
  a0 := Tryd.isAgg0
  z0 := Tryd.sizeOf0
  v0 := Tryd.zeroValue0
  t3 := Tryd.underlying3
  a3 := Tryd.isAgg3
  z3 := Tryd.sizeOf3
  v3 := Tryd.zeroValue3
  t4 := Tryd.underlying4
  a4 := Tryd.isAgg4
  z4 := Tryd.sizeOf4
  v4 := Tryd.zeroValue4
  t5 := Tryd.underlying5
  a5 := Tryd.isAgg5
  z5 := Tryd.sizeOf5
  v5 := Tryd.zeroValue5
  t9 := Tryd.underlying9
  a9 := Tryd.isAgg9
  z9 := Tryd.sizeOf9
  v9 := Tryd.zeroValue9
  t21 := Tryd.underlying21
  a21 := Tryd.isAgg21
  z21 := Tryd.sizeOf21
  v21 := Tryd.zeroValue21
  t31 := Tryd.underlying22
  a31 := Tryd.isAgg22
  z31 := Tryd.sizeOf22
  v31 := Tryd.zeroValue22
  t46 := Tryd.underlying107
  a46 := Tryd.isAgg107
  z46 := Tryd.sizeOf107
  v46 := Tryd.zeroValue107
  t51 := Tryd.underlying80
  a51 := Tryd.isAgg80
  z51 := Tryd.sizeOf80
  v51 := Tryd.zeroValue80
  t105 := Tryd.underlying83
  a105 := Tryd.isAgg83
  z105 := Tryd.sizeOf83
  v105 := Tryd.zeroValue83
  t119 := Tryd.underlying55
  a119 := Tryd.isAgg55
  z119 := Tryd.sizeOf55
  t138 := Tryd.underlying122
  a138 := Tryd.isAgg122
  z138 := Tryd.sizeOf122
  v138 := Tryd.zeroValue122
  t139 := Tryd.underlying123
  a139 := Tryd.isAgg123
  z139 := Tryd.sizeOf123
  v139 := Tryd.zeroValue123
  t146 := Tryd.underlying119
  a146 := Tryd.isAgg119
  z146 := Tryd.sizeOf119
  v146 := Tryd.zeroValue119
  g1 := by kernel_rfl
  g3 := by kernel_rfl
  g4 := by kernel_rfl }
open Go.RowKit Go.Lib in
theorem Tryd.strings_Split (s sep : ByteArray) (m : Int) (w : World) (hs : s.size < 4294967281) (hm : w.cell? ⟨2, 0, none⟩ = some (.int .i64 m)) (h1 : 1 ≤ sep.size) :
    Calls Tryd.prog 20 #[.string s, .string sep] w fun e w' =>
      e = .returned (.slice (some ⟨w.heap.size, 0, none⟩) (Lib.countB s sep + 1) (Lib.countB s sep + 1)) ∧ w' = w.alloc (.cells ((Lib.splitB sep 0 (Lib.countB s sep) s).map Value.string).toArray 9) := Any.strings_Split Tryd.lays146 (by kernel_rfl) s sep m w hs hm h1
def Tryd.laysM157_ren : Go.Shelf.Ren := ⟨fun | 157 => 14 | 229 => 25 | 199 => 26 | 261 => 42 | 311 => 62 | 312 => 63 | n => n, fun | 9 => 9 | 31 => 22 | 3 => 3 | 5 => 5 | 4 => 4 | 119 => 55 | 0 => 0 | 40 => 57 | 152 => 77 | 21 => 21 | 154 => 79 | 51 => 80 | 141 => 82 | 196 => 98 | 193 => 95 | 198 => 101 | 49 => 99 | 194 => 96 | 201 => 104 | 226 => 117 | 46 => 107 | 227 => 118 | n => n, fun | 0 => 0 | 6 => 1 | n => n⟩
theorem Tryd.laysM157 : Go.Proofs.LaysM.n157 Tryd.prog Tryd.laysM157_ren := {
  mixed := by kernel_rfl
  f157 := Tryd.func14.trans (congrArg some (by kernel_rfl))
  f199 := Tryd.func26.trans (congrArg some (by kernel_rfl))
  f229 := Tryd.func25.trans (congrArg some (by kernel_rfl))
  f261 := Tryd.func42.trans (congrArg some (by kernel_rfl))
  f311 := Tryd.func62.trans (congrArg some (by kernel_rfl))
  f312 := Tryd.func63.trans (congrArg some (by kernel_rfl))
  t0 := Tryd.underlying0
  a0 := Tryd.isAgg0
  z0 := Tryd.sizeOf0
  v0 := Tryd.zeroValue0
  t3 := Tryd.underlying3
  a3 := Tryd.isAgg3
  z3 := Tryd.sizeOf3
  v3 := Tryd.zeroValue3
  t4 := Tryd.underlying4
  a4 := Tryd.isAgg4
  z4 := Tryd.sizeOf4
  v4 := Tryd.zeroValue4
  t5 := Tryd.underlying5
  a5 := Tryd.isAgg5
  z5 := Tryd.sizeOf5
  v5 := Tryd.zeroValue5
  t9 := Tryd.underlying9
  a9 := Tryd.isAgg9
  z9 := Tryd.sizeOf9
  v9 := Tryd.zeroValue9
  t21 := Tryd.underlying21
  a21 := Tryd.isAgg21
  z21 := Tryd.sizeOf21
  v21 := Tryd.zeroValue21
  t31 := Tryd.underlying22
  a31 := Tryd.isAgg22
  z31 := Tryd.sizeOf22
  v31 := Tryd.zeroValue22
  t40 := Tryd.underlying57
  a40 := Tryd.isAgg57
  z40 := Tryd.sizeOf57
  v40 := Tryd.zeroValue57
  t46 := Tryd.underlying107
  a46 := Tryd.isAgg107
  z46 := Tryd.sizeOf107
  v46 := Tryd.zeroValue107
  t49 := Tryd.underlying99
  a49 := Tryd.isAgg99
  z49 := Tryd.sizeOf99
  v49 := Tryd.zeroValue99
  t51 := Tryd.underlying80
  a51 := Tryd.isAgg80
  z51 := Tryd.sizeOf80
  v51 := Tryd.zeroValue80
  t119 := Tryd.underlying55
  a119 := Tryd.isAgg55
  z119 := Tryd.sizeOf55
  t141 := Tryd.underlying82
  a141 := Tryd.isAgg82
  z141 := Tryd.sizeOf82
  v141 := Tryd.zeroValue82
  t152 := Tryd.underlying77
  a152 := Tryd.isAgg77
  z152 := Tryd.sizeOf77
  v152 := Tryd.zeroValue77
  t154 := Tryd.underlying79
  a154 := Tryd.isAgg79
  z154 := Tryd.sizeOf79
  v154 := Tryd.zeroValue79
  t193 := Tryd.underlying95
  a193 := Tryd.isAgg95
  z193 := Tryd.sizeOf95
  v193 := Tryd.zeroValue95
  t194 := Tryd.underlying96
  a194 := Tryd.isAgg96
  z194 := Tryd.sizeOf96
  v194 := Tryd.zeroValue96
  t196 := Tryd.underlying98
  a196 := Tryd.isAgg98
  z196 := Tryd.sizeOf98
  v196 := Tryd.zeroValue98
  t198 := Tryd.underlying101
  a198 := Tryd.isAgg101
  z198 := Tryd.sizeOf101
  v198 := Tryd.zeroValue101
  t201 := Tryd.underlying104
  a201 := Tryd.isAgg104
  z201 := Tryd.sizeOf104
  v201 := Tryd.zeroValue104
  t226 := Tryd.underlying117
  a226 := Tryd.isAgg117
  z226 := Tryd.sizeOf117
  v226 := Tryd.zeroValue117
  t227 := Tryd.underlying118
  a227 := Tryd.isAgg118
  z227 := Tryd.sizeOf118
  v227 := Tryd.zeroValue118
  g0 := by kernel_rfl
  g6 := by kernel_rfl
  i0 := by kernel_rfl
  i3 := by kernel_rfl
  i4 := by kernel_rfl
  i5 := by kernel_rfl
  i9 := by kernel_rfl
  i21 := by kernel_rfl
  i31 := by kernel_rfl
  i40 := by kernel_rfl
  i46 := by kernel_rfl
  i49 := by kernel_rfl
  i51 := by kernel_rfl
  i141 := by kernel_rfl
  i152 := by kernel_rfl
  i154 := by kernel_rfl
  i193 := by kernel_rfl
  i194 := by kernel_rfl
  i196 := by kernel_rfl
  i198 := by kernel_rfl
  i201 := by kernel_rfl
  i226 := by kernel_rfl
  i227 := by kernel_rfl
  m0 := by kernel_rfl
  m6 := by kernel_rfl }
open Go.RowKit Go.Lib in
theorem Tryd.strings_Fields_laid (s : ByteArray) (w : World) (hs : s.size < 4294967281) (hascii : ∀ (j : Nat) b, s.data.toList[j]? = some b → b.toNat < 128) (htab : Lib.TabIs Tryd.prog w "strings.asciiSpace" .u8 Lib.asciiSpaceTab) :
    Calls Tryd.prog 14 #[.string s] w fun e w' =>
      e = .returned (.slice (some ⟨w.heap.size, 0, none⟩) (Lib.fields s.data.toList).length (Lib.fields s.data.toList).length) ∧ w' = w.alloc (.cells ((Lib.fields s.data.toList).map fun l => Value.string ⟨l.toArray⟩).toArray 9) := Any.strings_Fields_laid Tryd.laysM157 s w hs hascii htab
def Tryd.lays150_ren : Go.Shelf.Ren := ⟨fun | 150 => 77 | 153 => 84 | 152 => 86 | 226 => 87 | 227 => 88 | 228 => 89 | 137 => 51 | 119 => 90 | 224 => 66 | 225 => 65 | 217 => 64 | 266 => 79 | n => n, fun | 9 => 9 | 4 => 4 | 3 => 3 | 5 => 5 | 21 => 21 | 117 => 128 | 116 => 127 | 0 => 0 | 46 => 107 | 124 => 130 | n => n, fun | n => n⟩
theorem Tryd.lays150 : Go.Proofs.Lays.n150 Tryd.prog Tryd.lays150_ren := {
  mixed := by kernel_rfl
  f119 := Tryd.func90.trans (congrArg some (by kernel_rfl))
  f137 := Tryd.func51.trans (congrArg some (by kernel_rfl))
  f150 := Tryd.func77.trans (congrArg some (by kernel_rfl))
  f152 := Tryd.func86.trans (congrArg some (by kernel_rfl))
  f153 := Tryd.func84.trans (congrArg some (by kernel_rfl))
  f217 := Tryd.func64.trans (congrArg some (by kernel_rfl))
  f224 := Tryd.func66.trans (congrArg some (by kernel_rfl))
  f225 := Tryd.func65.trans (congrArg some (by kernel_rfl))
  f226 := Tryd.func87.trans (congrArg some (by kernel_rfl))
  f227 := Tryd.func88.trans (congrArg some (by kernel_rfl))
  f228 := Tryd.func89.trans (congrArg some (by kernel_rfl))
  f266 := Tryd.func79.trans (congrArg some (by kernel_rfl))
  t0 := Tryd.underlying0
  a0 := Tryd.isAgg0
  z0 := Tryd.sizeOf0
  v0 := Tryd.zeroValue0
  t3 := Tryd.underlying3
  a3 := Tryd.isAgg3
  z3 := Tryd.sizeOf3
  v3 := Tryd.zeroValue3
  t4 := Tryd.underlying4
  a4 := Tryd.isAgg4
  z4 := Tryd.sizeOf4
  v4 := Tryd.zeroValue4
  t5 := Tryd.underlying5
  a5 := Tryd.isAgg5
  z5 := Tryd.sizeOf5
  v5 := Tryd.zeroValue5
  t9 := Tryd.underlying9
  a9 := Tryd.isAgg9
  z9 := Tryd.sizeOf9
  v9 := Tryd.zeroValue9
  t21 := Tryd.underlying21
  a21 := Tryd.isAgg21
  z21 := Tryd.sizeOf21
  v21 := Tryd.zeroValue21
  t46 := Tryd.underlying107
  a46 := Tryd.isAgg107
  z46 := Tryd.sizeOf107
  v46 := Tryd.zeroValue107
  t116 := Tryd.underlying127
  a116 := Tryd.isAgg127
  z116 := Tryd.sizeOf127
  t117 := Tryd.underlying128
  a117 := Tryd.isAgg128
  z117 := Tryd.sizeOf128
  v117 := Tryd.zeroValue128
  t124 := Tryd.underlying130
  a124 := Tryd.isAgg130
  z124 := Tryd.sizeOf130
  v124 := Tryd.zeroValue130 }
open Go.RowKit Go.Lib in
theorem Tryd.strings_ContainsAny_laid (s chars : ByteArray) (w : World) (hs : s.size < 4294967281) (hcs : chars.size < 4294967281) (has : ∀ (j : Nat) b, s.data.toList[j]? = some b → b.toNat < 128) (hac : ∀ (j : Nat) b, chars.data.toList[j]? = some b → b.toNat < 128) :
    Calls Tryd.prog 77 #[.string s, .string chars] w fun e w' => e = .returned (.bool (Lib.containsAny s.data.toList chars.data.toList)) ∧ Below w.heap.size w w' := Any.strings_ContainsAny_laid Tryd.lays150 (by kernel_rfl) s chars w hs hcs has hac
def Tryd.lays109_ren : Go.Shelf.Ren := ⟨fun | 109 => 75 | n => n, fun | 31 => 22 | 9 => 9 | 3 => 3 | 0 => 0 | 4 => 4 | n => n, fun | n => n⟩
theorem Tryd.lays109 : Go.Proofs.Lays.n109 Tryd.prog Tryd.lays109_ren := {
  mixed := by kernel_rfl
  f109 := Tryd.func75.trans (congrArg some (by kernel_rfl))
  t0 := Tryd.underlying0
  a0 := Tryd.isAgg0
  z0 := Tryd.sizeOf0
  v0 := Tryd.zeroValue0
  t3 := Tryd.underlying3
  a3 := Tryd.isAgg3
  z3 := Tryd.sizeOf3
  v3 := Tryd.zeroValue3
  t4 := Tryd.underlying4
  a4 := Tryd.isAgg4
  z4 := Tryd.sizeOf4
  v4 := Tryd.zeroValue4
  t9 := Tryd.underlying9
  a9 := Tryd.isAgg9
  z9 := Tryd.sizeOf9
  v9 := Tryd.zeroValue9
  t31 := Tryd.underlying22
  a31 := Tryd.isAgg22
  z31 := Tryd.sizeOf22
  v31 := Tryd.zeroValue22 }
open Go.Lib in
theorem Tryd.slices_Index_string (b off n c : Nat) (zs : List ByteArray) (x : ByteArray) (w : World) (hz : n ≤ zs.length) (hbig : n ≤ 9223372036854775807) (hc : ∀ j, j < zs.length → w.cell? ⟨b, off + j, none⟩ = some (.string (zs.getD j ByteArray.empty))) :
    Calls Tryd.prog 75 #[.slice (some ⟨b, off, none⟩) n c, .string x] w fun e w' => e = .returned (.int .i64 (Lib.idxOfS (zs.take n) x)) ∧ w' = w := Any.slices_Index_string Tryd.lays109 b off n c zs x w hz hbig hc
end Go.Proofs

/- strconv.Atoi at every string: one contract with its three ends. -/
namespace Go.Proofs.YtnemcnpilngblaaDoor
set_option linter.unusedVariables false
open Go.RowKit

end Go.Proofs.YtnemcnpilngblaaDoor

/- strings.Builder written, and strings.Join: the library's contracts at this program. -/
namespace Go.Proofs.YtnemcnpilngblaaDoor
set_option linter.unusedVariables false
open Go.RowKit

/-- strings.Join of words in memory. -/
theorem join_c (l : List ByteArray) (sep : ByteArray) (v : Value) (F : Nat → Prop) (w : World) (hv : Sli strR w F l v) (hF : ∀ b, F b → b < w.heap.size) (hlen : (Lib.join (l.map (·.data.toList)) sep.data.toList).length ≤ 140737488355328) (hN : l.length ≤ 140737488355328) :
    Calls Tryd.prog 19 #[v, .string sep] w fun e w' => e = .returned (.string ⟨(Lib.join (l.map (·.data.toList)) sep.data.toList).toArray⟩) ∧ Below w.heap.size w w' := by
  obtain ⟨A, c, rfl, h1, h2, h3⟩ := hv
  by_cases h0 : 0 < l.length
  · obtain ⟨b, off, cs, rfl, hb, hl, hc⟩ := h3 h0
    refine Any.strings_Join Tryd.lays156 Tryd.Builder_Extra_156 b off c l sep w (fun j x hx => ?_) (hF b hb) hN h1 hlen
    have h4 : (cs.drop (j * 1)).take 1 = [.string x] := hl.2 j x hx
    refine hc j _ ?_
    have h5 : ((cs.drop (j * 1)).take 1)[0]? = some (.string x) := by rw [h4]; rfl
    rw [List.getElem?_take, if_pos (by decide), List.getElem?_drop] at h5
    simpa using h5
  · have : l = [] := List.length_eq_zero_iff.1 (by omega)
    subst this
    exact (Any.strings_Join_none Tryd.lays156 Tryd.Builder_Extra_156 A c sep w).mono fun e w' ⟨he, hw⟩ => ⟨he, hw ▸ Below.refl _ _⟩
end Go.Proofs.YtnemcnpilngblaaDoor

/- strings.Builder written, with what stands beside it kept: the library's contracts at this program. -/
namespace Go.Proofs.YtnemcnpilngblaaDoor
set_option linter.unusedVariables false
open Go.RowKit

/-- A builder of the call's own, whose block is B, that holds the bytes l. -/
def BldK (w : World) (B : Nat) (l : List UInt8) : Prop := Lib.IsBuilderF 63 5 B B (Lib.byteCells l) w
theorem BldK.new (w : World) : BldK (w.alloc (.cells #[.pointer none, .slice none 0 0] 63)) w.heap.size [] := Lib.IsBuilderF.of (Lib.fresh_isBuilder _ _ w)
theorem BldK.lt {w : World} {B : Nat} {l : List UInt8} (h : BldK w B l) : B < w.heap.size := by
  rcases h with ⟨_, v, hb, _⟩ | ⟨_, v, hb, _⟩
  · exact (Array.getElem?_eq_some_iff.1 hb).1
  · exact (Array.getElem?_eq_some_iff.1 hb).1
theorem BldK.keep {w w' : World} {B : Nat} {l : List UInt8} (h : BldK w B l) (hk : ∀ b, B ≤ b → b < w.heap.size → w'.heap[b]? = w.heap[b]?) : BldK w' B l := by
  have one : ∀ p, Lib.BuilderAtF 63 5 B B p (Lib.byteCells l) w → Lib.BuilderAtF 63 5 B B p (Lib.byteCells l) w' := by
    rintro p ⟨hB, v, hb, ho, hne⟩
    refine ⟨hB, v, (hk B (Nat.le_refl _) (Array.getElem?_eq_some_iff.1 hb).1).trans hb, ⟨ho.1, ?_⟩, hne⟩
    rcases ho.2 with hn | ⟨g, cap, cur, fz, rfl, hg0, hg, rest⟩
    · exact .inl hn
    · exact .inr ⟨g, cap, cur, fz, rfl, hg0, (hk g hg0 (Array.getElem?_eq_some_iff.1 hg).1).trans hg, rest⟩
  rcases h with h | h
  · exact .inl (one _ h)
  · exact .inr (one _ h)
theorem BldK.below {w w' : World} {B : Nat} {l : List UInt8} (h : BldK w B l) (hb : Below w.heap.size w w') : BldK w' B l := h.keep fun b _ hlt => hb.block b hlt
theorem BldK.alloc {w : World} {B : Nat} {l : List UInt8} (h : BldK w B l) (o : Obj) : BldK (w.alloc o) B l := h.keep fun b _ hlt => Below.heap_alloc w o b hlt
theorem BldK.drew {w : World} {B : Nat} {l : List UInt8} (h : BldK w B l) : BldK w.drew B l := h
theorem writeK_c (B : Nat) (l : List UInt8) (s : ByteArray) (w : World) (h : BldK w B l) (hlen : l.length + s.size ≤ 140737488355328) :
    Calls Tryd.prog 32 #[.pointer (some ⟨B, 0, none⟩), .string s] w fun e w' => e = .returned (.tuple #[.int .i64 s.size, .nilIface]) ∧ (BldK w' B (l ++ s.data.toList) ∧ Below B w w' ∧ Lib.OthersKept 5 (some B) w w') := by
  refine (Any.Builder_WriteString_k { Tryd.lays156 with } Tryd.Builder_Extra_156 B B (Lib.byteCells l) s w h (by rw [Lib.byteCells_length]; exact hlen) (Nat.le_of_lt h.lt)).mono ?_
  rintro e w' ⟨he, h1, h2, h3⟩
  refine ⟨he, .inr ?_, h2, h3⟩
  rw [Lib.strCells_eq, ← Lib.byteCells_append] at h1
  exact h1
theorem textK_c (B : Nat) (l : List UInt8) (w : World) (h : BldK w B l) :
    Calls Tryd.prog 33 #[.pointer (some ⟨B, 0, none⟩)] w fun e w' => e = .returned (.string ⟨l.toArray⟩) ∧ Below B w w' :=
  (Any.Builder_String_any_k { Tryd.lays156 with } Tryd.Builder_Extra_156 B B l w h (Nat.le_of_lt h.lt)).mono fun _ _ h => ⟨h.1, h.2.2.1⟩
/-- A block of the call's own that is no row of bytes stands behind a write. -/
theorem keptK {w w' : World} {B X : Nat} {cs : Array Value} {T : TypeId} (h : Lib.OthersKept 5 (some B) w w') (hX : w.heap[X]? = some (.cells cs T (0, 0))) (hne : X ≠ B) (hT : T ≠ 5) : w'.heap[X]? = some (.cells cs T (0, 0)) :=
  h X _ hX (fun e => hne (by injection e)) (fun c fz e => hT (by injection e))
end Go.Proofs.YtnemcnpilngblaaDoor

/- The reference's small words on strings. -/
namespace Go.Proofs.YtnemcnpilngblaaDoor
set_option linter.unusedVariables false
open Go.RowKit

end Go.Proofs.YtnemcnpilngblaaDoor

/- The shelf contracts that these proofs use, laid at this translation. -/
namespace Go.Proofs
open Go.Shelf

end Go.Proofs

/- Small laws on strings and bytes. No program in sight. -/
namespace Go.Proofs.YtnemcnpilngblaaDoor
set_option linter.unusedVariables false
open Go.RowKit

end Go.Proofs.YtnemcnpilngblaaDoor

/- The program's codes. -/
namespace Go.Proofs.YtnemcnpilngblaaDoor
set_option linter.unusedVariables false
open Go.RowKit Go.Sort

end Go.Proofs.YtnemcnpilngblaaDoor

/- A text cut at a byte, in plain words. No program in sight. -/
namespace Go.Proofs.YtnemcnpilngblaaDoor
set_option linter.unusedVariables false
open Go.RowKit

/-- Where a byte stands first; the length where it does not stand. -/
def cutI (s : ByteArray) (c : UInt8) : Nat := s.data.toList.findIdx (· == c)
def cutF (s : ByteArray) (c : UInt8) : Bool := decide (cutI s c < s.size)
def cutA (s : ByteArray) (c : UInt8) : ByteArray := s.extract 0 (cutI s c)
def cutB (s : ByteArray) (c : UInt8) : ByteArray := s.extract (cutI s c + 1) s.size
theorem cutI_le (s : ByteArray) (c : UInt8) : cutI s c ≤ s.size := by
  have := List.findIdx_le_length (p := (· == c)) (xs := s.data.toList)
  simpa [cutI] using this
theorem cutA_size (s : ByteArray) (c : UInt8) : (cutA s c).size ≤ s.size := by unfold cutA; rw [ByteArray.size_extract]; omega
theorem cutB_size (s : ByteArray) (c : UInt8) : (cutB s c).size ≤ s.size := by unfold cutB; rw [ByteArray.size_extract]; omega
theorem idxB_no {s : ByteArray} {c : UInt8} (h : ¬ cutI s c < s.size) : Lib.indexByte s.data.toList c = -1 := by
  by_cases h1 : Lib.indexByte s.data.toList c = -1
  · exact h1
  · exfalso
    have hg := Lib.indexByte_ge s.data.toList c
    obtain ⟨o, ho⟩ := Int.eq_ofNat_of_zero_le (show 0 ≤ Lib.indexByte s.data.toList c by omega)
    obtain ⟨h2, _⟩ := Lib.indexByte_some ho
    obtain ⟨hlt, h3⟩ := List.getElem?_eq_some_iff.1 h2
    exact h (by
      have h4 : cutI s c < s.data.toList.length := List.findIdx_lt_length_of_exists ⟨c, by rw [← h3]; exact List.getElem_mem hlt, by simp⟩
      simpa using h4)
theorem idxB_yes {s : ByteArray} {c : UInt8} (h : cutI s c < s.size) : Lib.indexByte s.data.toList c = (cutI s c : Int) := by
  have hl : cutI s c < s.data.toList.length := by simpa using h
  have hg := Lib.indexByte_ge s.data.toList c
  have hc : s.data.toList[cutI s c] = c := by have := List.findIdx_getElem (p := (· == c)) (w := hl); exact eq_of_beq this
  have hne : Lib.indexByte s.data.toList c ≠ -1 := fun e => Lib.indexByte_none e (cutI s c) (by rw [List.getElem?_eq_getElem hl, hc])
  obtain ⟨o, ho⟩ := Int.eq_ofNat_of_zero_le (show 0 ≤ Lib.indexByte s.data.toList c by omega)
  obtain ⟨h2, h3⟩ := Lib.indexByte_some ho
  obtain ⟨hlt, h4⟩ := List.getElem?_eq_some_iff.1 h2
  rcases Nat.lt_trichotomy o (cutI s c) with h5 | h5 | h5
  · have := List.not_of_lt_findIdx (p := (· == c)) (xs := s.data.toList) h5
    simp [h4] at this
  · rw [ho, h5]
  · exact absurd (by rw [List.getElem?_eq_getElem hl, hc]) (h3 _ h5)
theorem extract_list' (s : ByteArray) (a b : Nat) : (s.extract a b).data.toList = (s.data.toList.drop a).take (b - a) := by simp
theorem ba_ext {a b : ByteArray} (h : a.data.toList = b.data.toList) : a = b := by
  rcases a with ⟨⟨a⟩⟩; rcases b with ⟨⟨b⟩⟩; simp at h; rw [h]
end Go.Proofs.YtnemcnpilngblaaDoor

/- strings.Cut at one byte, for every string. -/
namespace Go.Proofs.YtnemcnpilngblaaDoor
set_option linter.unusedVariables false
open Go.RowKit

set_option maxHeartbeats 400000 in
theorem cutL_c (s : ByteArray) (c : UInt8) (w : World) (hs : s.size ≤ 140737488355328) :
    Calls Tryd.prog 81 #[.string s, .string ⟨#[c]⟩] w fun e w' => e = .returned (.tuple #[.string (cutA s c), .string (cutB s c), .bool (cutF s c)]) ∧ ∃ n, w' = w.drewN n := by
  by_cases h : cutI s c < s.size
  · have HI := Lib.hid (idxB_yes h)
    obtain ⟨i, hi⟩ : ∃ i, cutI s c = i := ⟨_, rfl⟩
    have HV := Lib.hid (show cutA s c = s.extract 0 i ∧ cutB s c = s.extract (i + 1) s.size ∧ cutF s c = true by unfold cutA cutB cutF; rw [← hi]; exact ⟨rfl, rfl, decide_eq_true h⟩)
    rw [hi] at h HI
    clear hi
    have p0 : (0 : Int) ≤ (i : Int) := by omega
    have p1 : (i : Int) ≤ (s.size : Int) := by omega
    have p2 : (i : Int) + 1 ≤ (s.size : Int) := by omega
    have p3 : (0 : Int) ≤ (i : Int) + 1 := by omega
    have p4 : ((i : Int) + 1).toNat = i + 1 := by omega
    have p5 : IntKind.i64.wrap ((i : Int) + 1) = (i : Int) + 1 := IntWalk.i64_in _ (by omega)
    have p6 : i ≤ s.size := by omega
    have p7 : i + 1 ≤ s.size := by omega
    go_enter Tryd.func81, Tryd.ntmps81
    go_wp2_with fail
    refine (Tryd.stringslite_Index_one s c _).mono ?_
    rintro e w' ⟨rfl, rfl⟩
    rw [HI.out]
    go_wp2
    go_quiet (fail)
    go_wp2
    refine bodyPost_ret (v := .tuple #[.string (cutA s c), .string (cutB s c), .bool (cutF s c)]) ?_ rfl ⟨rfl, _, rfl⟩
    rw [HV.out.1, HV.out.2.1, HV.out.2.2]
    simp [results, go_sem]
  · have HI := Lib.hid (idxB_no h)
    have hi : cutI s c = s.size := by have := cutI_le s c; omega
    have HV := Lib.hid (show cutA s c = s ∧ cutB s c = ⟨#[]⟩ ∧ cutF s c = false by
      unfold cutA cutB cutF; rw [hi]
      exact ⟨ba_ext (by simp), ba_ext (by simp), by simp⟩)
    clear hi h
    go_enter Tryd.func81, Tryd.ntmps81
    go_wp2_with fail
    refine (Tryd.stringslite_Index_one s c _).mono ?_
    rintro e w' ⟨rfl, rfl⟩
    rw [HI.out]
    go_wp2
    refine bodyPost_ret (v := .tuple #[.string (cutA s c), .string (cutB s c), .bool (cutF s c)]) ?_ rfl ⟨rfl, 0, rfl⟩
    rw [HV.out.1, HV.out.2.1, HV.out.2.2]
    simp [results, go_sem]
set_option maxHeartbeats 400000 in
theorem cut_c (s : ByteArray) (c : UInt8) (w : World) (hs : s.size ≤ 140737488355328) :
    Calls Tryd.prog 73 #[.string s, .string ⟨#[c]⟩] w fun e w' => e = .returned (.tuple #[.string (cutA s c), .string (cutB s c), .bool (cutF s c)]) ∧ ∃ n, w' = w.drewN n := by
  go_enter Tryd.func73, Tryd.ntmps73
  go_wp2_with fail
  refine (cutL_c s c _ hs).mono ?_
  rintro e w' ⟨rfl, ⟨n, rfl⟩⟩
  go_wp2
  exact bodyPost_ret (v := .tuple #[.string (cutA s c), .string (cutB s c), .bool (cutF s c)]) (by simp [results, go_sem]) rfl ⟨rfl, _, rfl⟩
end Go.Proofs.YtnemcnpilngblaaDoor

/- Numerals read by the program and by the reference. -/
namespace Go.Proofs.YtnemcnpilngblaaDoor
set_option linter.unusedVariables false
open Go.RowKit Go.Sort

end Go.Proofs.YtnemcnpilngblaaDoor

/- The generator's changed texts and frames. -/
namespace Go.Proofs.YtnemcnpilngblaaDoor
set_option linter.unusedVariables false
open Go.RowKit Go.Sort

end Go.Proofs.YtnemcnpilngblaaDoor

/- The generator's numbers of scenes and setups. -/
namespace Go.Proofs.YtnemcnpilngblaaDoor
set_option linter.unusedVariables false
open Go.RowKit Go.Sort

end Go.Proofs.YtnemcnpilngblaaDoor

/- Digests: the program's and the reference's. -/
namespace Go.Proofs.YtnemcnpilngblaaDoor
set_option linter.unusedVariables false
open Go.RowKit Go.Sort

end Go.Proofs.YtnemcnpilngblaaDoor

/- The program's names of files, and copies checked. -/
namespace Go.Proofs.YtnemcnpilngblaaDoor
set_option linter.unusedVariables false
open Go.RowKit

theorem idx_set (set : List UInt8) (c : UInt8) : (set.contains c = true → 0 ≤ Lib.indexByte set c) ∧ (set.contains c = false → Lib.indexByte set c < 0) := by
  have hg := Lib.indexByte_ge set c
  constructor
  · intro h
    by_cases h1 : Lib.indexByte set c = -1
    · have hm : c ∈ set := by simpa using h
      obtain ⟨k, hk, e⟩ := List.mem_iff_getElem.1 hm
      exact absurd (by rw [List.getElem?_eq_getElem hk, e]) (Lib.indexByte_none h1 k)
    · omega
  · intro h
    by_cases h1 : 0 ≤ Lib.indexByte set c
    · obtain ⟨o, ho⟩ := Int.eq_ofNat_of_zero_le h1
      obtain ⟨h2, _⟩ := Lib.indexByte_some ho
      have : c ∈ set := List.mem_of_getElem? h2
      simp at h; exact absurd this h
    · omega
/-- strings.IndexByte: below 0 just where the byte is none of the set. -/
theorem idxB_c (set : ByteArray) (c : UInt8) (w : World) : Calls Tryd.prog 51 #[.string set, .int .u8 (c.toNat : Int)] w fun e w' => e = .returned (.int .i64 (Lib.indexByte set.data.toList c)) ∧ w = w' := by
  refine (Tryd.strings_IndexByte set (c.toNat : Int) w).mono ?_
  rintro e w' ⟨he, hw⟩
  refine ⟨?_, hw.symm⟩
  rw [he]
  have : ((c.toNat : Int)).toNat.toUInt8 = c := by simp
  rw [this]

end Go.Proofs.YtnemcnpilngblaaDoor

/- Lists of copies checked, and manifests made. -/
namespace Go.Proofs.YtnemcnpilngblaaDoor
set_option linter.unusedVariables false
open Go.RowKit

end Go.Proofs.YtnemcnpilngblaaDoor

/- Slices compared and looked through; the reference's names of files. -/
namespace Go.Proofs.YtnemcnpilngblaaDoor
set_option linter.unusedVariables false
open Go.RowKit

theorem strAt {w : World} {F : Nat → Prop} {l : List ByteArray} {A : Option Addr} {n c : Nat} (h : Sli strR w F l (.slice A n c)) (k : Nat) (hk : k < l.length) : ∃ b off, A = some ⟨b, off, none⟩ ∧ F b ∧ w.cell? ⟨b, off + k, none⟩ = some (.string l[k]) := by
  obtain ⟨b, off, a, e, hb, hr, hc⟩ := h.at_ k hk
  have ha : a = [.string l[k]] := hr
  subst ha
  refine ⟨b, off, e, hb, ?_⟩
  have h := hc 0 _ rfl
  rw [show off + k * strR.n + 0 = off + k from by show off + k * 1 + 0 = _; omega] at h
  exact h
theorem eq_take_next {α : Type} {a b : List α} {k : Nat} (h1 : k < a.length) (h2 : k < b.length) (h : a.take k = b.take k) (e : a[k] = b[k]) : a.take (k + 1) = b.take (k + 1) := by
  rw [List.take_succ_eq_append_getElem h1, List.take_succ_eq_append_getElem h2, h, e]
theorem ne_at {α : Type} {a b : List α} {k : Nat} (h1 : k < a.length) (h2 : k < b.length) (e : ¬ a[k] = b[k]) : ¬ a = b := by
  intro h; subst h; exact e rfl

set_option maxRecDepth 100000 in
set_option maxHeartbeats 800000 in
theorem eqStr_c (l1 l2 : List ByteArray) (v1 v2 : Value) (F : Nat → Prop) (w : World) (h1 : Sli strR w F l1 v1) (h2 : Sli strR w F l2 v2) (hF : ∀ b, F b → b < w.heap.size) :
    Calls Tryd.prog 7 #[v1, v2] w fun e w' => e = .returned (.bool (decide (l1 = l2))) ∧ Below w.heap.size w w' := by
  obtain ⟨A1, c1, rfl, hlc1, hc1⟩ := h1.form
  obtain ⟨A2, c2, rfl, hlc2, hc2⟩ := h2.form
  have H1 := Lib.hid h1; clear h1
  have H2 := Lib.hid h2; clear h2
  have HF := Lib.hid hF; clear hF
  by_cases hne : l1.length = l2.length
  · obtain ⟨n, hn1⟩ : ∃ n, l1.length = n := ⟨_, rfl⟩
    have hn2 : l2.length = n := by omega
    rw [hn1] at H1 hlc1 ⊢
    rw [hn2] at H2 ⊢
    go_enter Tryd.func7, Tryd.ntmps7
    go_wp2
    go_loopw [13] (fun i wr => ∃ k : Nat, k ≤ n ∧ i = .int .i64 k ∧ Below w.heap.size w wr ∧ Hid (l1.take k = l2.take k)) (fun i _ => n - (intOf i).toNat)
    case atStart => exact ⟨0, Nat.zero_le _, rfl, Below.refl _ _, rfl⟩
    case round =>
      obtain ⟨k, hk, rfl, hb, HT⟩ := hrel
      by_cases hlt : k < n
      · obtain ⟨b, off, rfl, hfb, c0⟩ := strAt (H1.out.below hb HF.out) k (by omega)
        obtain ⟨b2, off2, rfl, hfb2, d0⟩ := strAt (H2.out.below hb HF.out) k (by omega)
        by_cases he : l1[k]'(by omega) = l2[k]'(by omega)
        · have HN := Lib.hid (eq_take_next (by omega) (by omega) HT.out he)
          rw [he] at c0
          clear he
          generalize l2[k]'(by omega) = x at *
          go_wp2
          go_quiet (fail)
          go_wp2
          go_roundw
          case rel => exact ⟨k + 1, by omega, intNum, by first | exact hb | exact hb.drew | exact below_drewN hb _, HN.out⟩
          case measure => simp [intOf]; omega
        · have HN := Lib.hid (ne_at (by omega) (by omega) he)
          generalize l1[k]'(by omega) = x at *
          generalize l2[k]'(by omega) = y at *
          have hq : (x.toList == y.toList) = false := by rw [beqS]; simpa using he
          go_wp2
          go_quiet (fail)
          go_wp2
          go_ret
          exact ⟨ret_bool (by symm; simpa using HN.out), by first | exact hb | exact hb.drew | exact below_drewN hb _⟩
      · have e : k = n := by omega
        have HN := Lib.hid (show l1 = l2 by have := HT.out; rwa [List.take_of_length_le (by omega), List.take_of_length_le (by omega)] at this)
        go_wp2
        go_ret
        exact ⟨ret_bool (by symm; simpa using HN.out), hb⟩
  · have HN := Lib.hid (show ¬ l1 = l2 by intro h; exact hne (by rw [h]))
    have hz : ¬ (l1.length : Int) = l2.length := by omega
    go_enter Tryd.func7, Tryd.ntmps7
    go_wp2
    go_ret
    exact ⟨ret_bool (by symm; simpa using HN.out), Below.refl _ _⟩

instance : DecidableEq Copied := fun a b => decidable_of_iff (a.eqB b = true) Copied.eqB_iff
end Go.Proofs.YtnemcnpilngblaaDoor

/- The number of a scene, and a setup, in plain words. -/
namespace Go.Proofs.YtnemcnpilngblaaDoor
set_option linter.unusedVariables false
open Go.RowKit

def digB (c : UInt8) : Bool := decide (48 ≤ c.toNat) && decide (c.toNat ≤ 57)
def capB (c : UInt8) : Bool := decide (65 ≤ c.toNat) && decide (c.toNat ≤ 90)
def numK (s : ByteArray) : Nat := (s.data.toList.takeWhile digB).length
def numB (s : ByteArray) : Bool :=
  (s.data.toList.drop (numK s)).all capB && decide (s.size - numK s ≤ 5) && !Lib.hasSuffix (s.data.toList.drop (numK s)) [65]
    && (if s.data.toList.take (numK s) = [48] then decide (numK s < s.size) else decide (1 ≤ numK s) && decide (numK s ≤ 3) && decide (s.data.toList.head? ≠ some 48))

theorem takeWhile_len {p : UInt8 → Bool} {l : List UInt8} {k : Nat} (h : ∀ x ∈ l.take k, p x = true) (hk : k ≤ l.length) (he : ∀ hlt : k < l.length, p l[k] = false) : (l.takeWhile p).length = k := by
  induction l generalizing k with
  | nil => simp at hk; simp [hk]
  | cons y l ih =>
    cases k with
    | zero => have := he (by simp); simp at this; simp [this]
    | succ k =>
      have h0 : p y = true := h y (by simp)
      have := ih (k := k) (fun x hx => h x (by simp [hx])) (by simpa using hk) (fun hlt => he (Nat.succ_lt_succ hlt))
      simp [h0, this]
theorem numK_eq {s : ByteArray} {k : Nat} (h : ∀ x ∈ s.data.toList.take k, digB x = true) (hk : k ≤ s.size) (he : ∀ hlt : k < s.size, digB s[k] = false) : numK s = k :=
  takeWhile_len h (by simpa using hk) (fun hlt => he (by simpa using hlt))
theorem extract_list (s : ByteArray) (a b : Nat) : (s.extract a b).data.toList = (s.data.toList.drop a).take (b - a) := by
  simp
theorem extract_end (s : ByteArray) (k : Nat) : (s.extract k s.size).data.toList = s.data.toList.drop k := by
  rw [extract_list, List.take_of_length_le]
  simp

theorem numB_size {s : ByteArray} (h : numB s = true) : s.size ≤ 8 := by
  simp only [numB, Bool.and_eq_true, decide_eq_true_eq] at h
  obtain ⟨⟨⟨_, h1⟩, _⟩, h2⟩ := h
  split at h2
  · rename_i h3
    have := congrArg List.length h3
    simp at this; omega
  · simp only [Bool.and_eq_true, decide_eq_true_eq] at h2; omega

end Go.Proofs.YtnemcnpilngblaaDoor

/- Plain texts, in plain words: joined words against no blanks beside blanks. No program in sight. -/
namespace Go.Proofs.YtnemcnpilngblaaDoor
set_option linter.unusedVariables false
open Go.RowKit

/-- The words of a text: what stands between blanks. -/
def wordsA : List UInt8 → List UInt8 → List (List UInt8)
  | [], cur => if cur = [] then [] else [cur]
  | c :: l, cur => if c = 32 then (if cur = [] then wordsA l [] else cur :: wordsA l []) else wordsA l (cur ++ [c])
def joinW : List (List UInt8) → List UInt8
  | [] => []
  | [w] => w
  | w :: v :: r => w ++ 32 :: joinW (v :: r)
/-- No blank behind a blank, none at the end. -/
def okA : Bool → List UInt8 → Bool
  | prev, [] => !prev
  | prev, c :: l => if c = 32 then (if prev then false else okA true l) else okA false l
theorem joinW_cons (w : List UInt8) (r : List (List UInt8)) : joinW (w :: r) = if r = [] then w else w ++ 32 :: joinW r := by
  cases r with
  | nil => rfl
  | cons v r => rfl
theorem wordsA_ne (l : List UInt8) : ∀ cur, cur ≠ [] → wordsA l cur ≠ [] := by
  induction l with
  | nil => intro cur h; simp [wordsA, h]
  | cons c l ih =>
    intro cur h
    unfold wordsA
    by_cases hc : c = 32
    · rw [if_pos hc, if_neg h]; simp
    · rw [if_neg hc]; exact ih _ (by simp)
theorem join_len (l : List UInt8) : ∀ cur, (joinW (wordsA l cur)).length ≤ cur.length + l.length := by
  induction l with
  | nil => intro cur; by_cases h : cur = [] <;> simp [wordsA, h, joinW]
  | cons c l ih =>
    intro cur
    unfold wordsA
    by_cases hc : c = 32
    · rw [if_pos hc]
      have h1 := ih []
      by_cases h : cur = []
      · rw [if_pos h]; simp at h1 ⊢; omega
      · rw [if_neg h, joinW_cons]
        split
        · simp
        · simp at h1 ⊢; omega
    · rw [if_neg hc]
      have := ih (cur ++ [c])
      simp at this ⊢; omega
theorem join_ok (l : List UInt8) : (∀ cur, cur ≠ [] → (joinW (wordsA l cur) = cur ++ l ↔ okA false l = true)) ∧ ((wordsA l [] ≠ [] ∧ joinW (wordsA l []) = l) ↔ okA true l = true) := by
  induction l with
  | nil =>
    refine ⟨fun cur h => ?_, ?_⟩
    · simp [wordsA, h, joinW, okA]
    · simp [wordsA, okA]
  | cons c l ih =>
    obtain ⟨ihA, ihB⟩ := ih
    refine ⟨fun cur h => ?_, ?_⟩
    · unfold wordsA okA
      by_cases hc : c = 32
      · rw [if_pos hc, if_neg h, if_pos hc, joinW_cons]
        simp only [Bool.false_eq_true, if_false]
        rw [← ihB]
        by_cases hw : wordsA l [] = []
        · rw [if_pos hw]; simp [hw]
        · rw [if_neg hw, hc]
          simp [hw]
      · rw [if_neg hc, if_neg hc, ← ihA (cur ++ [c]) (by simp)]; simp
    · unfold wordsA okA
      by_cases hc : c = 32
      · rw [if_pos hc, if_pos rfl, if_pos hc]
        simp only [if_true, Bool.false_eq_true, iff_false, not_and]
        intro _ h
        have := join_len l []
        rw [h] at this
        simp at this
        omega
      · rw [if_neg hc, if_neg hc, List.nil_append, ← ihA [c] (by simp)]
        constructor
        · rintro ⟨_, h⟩; exact h
        · intro h; exact ⟨wordsA_ne l _ (by simp), h⟩
def plainL (l : List UInt8) : Bool := decide (l = []) || okA true l
/-- What the reference asks. -/
theorem plain_join (l : List UInt8) : joinW (wordsA l []) = l ↔ plainL l = true := by
  unfold plainL
  cases l with
  | nil => simp [wordsA, joinW]
  | cons c l =>
    have h := (join_ok (c :: l)).2
    simp only [Bool.or_eq_true, decide_eq_true_eq, reduceCtorEq, false_or]
    rw [← h]
    constructor
    · intro he
      refine ⟨fun hw => ?_, he⟩
      rw [hw] at he; cases he
    · exact fun h => h.2
def dblB : List UInt8 → Bool
  | [] => false
  | [_] => false
  | a :: b :: l => (a == 32 && b == 32) || dblB (b :: l)
def sufB : List UInt8 → Bool
  | [] => false
  | [a] => a == 32
  | _ :: b :: l => sufB (b :: l)
/-- What the program asks. -/
theorem okA_prog (l : List UInt8) : ∀ prev c, okA prev (c :: l) = (!dblB (c :: l) && !(prev && c == 32) && !sufB (c :: l)) := by
  induction l with
  | nil =>
    intro prev c
    by_cases hc : c = 32
    · cases prev <;> simp [okA, dblB, sufB, hc]
    · cases prev <;> simp [okA, dblB, sufB, hc]
  | cons d l ih =>
    intro prev c
    by_cases hc : c = 32
    · cases prev
      · rw [okA, if_pos hc]
        simp only [Bool.false_eq_true, if_false]
        rw [ih true d]
        have e : (c == 32) = true := by rw [hc]; rfl
        simp only [dblB, sufB, e, Bool.true_and, Bool.false_and, Bool.not_false, Bool.and_true]
        generalize dblB (d :: l) = x
        generalize sufB (d :: l) = y
        generalize (d == 32) = z
        cases x <;> cases y <;> cases z <;> rfl
      · have e : (c == 32) = true := by rw [hc]; rfl
        simp [okA, hc]
    · rw [okA, if_neg hc, ih false d]
      have e : (c == 32) = false := beq_eq_false_iff_ne.2 hc
      simp only [dblB, sufB, e, Bool.false_and, Bool.and_false, Bool.not_false, Bool.and_true, Bool.false_or]
theorem contains_cons (b : UInt8) (l sub : List UInt8) : Lib.contains (b :: l) sub = (sub.isPrefixOf (b :: l) || Lib.contains l sub) := by
  unfold Lib.contains
  have hg := Lib.index_ge l sub
  rw [Lib.index]
  cases h : sub.isPrefixOf (b :: l) with
  | true => simp
  | false =>
    simp only [Bool.false_eq_true, if_false, Bool.false_or]
    by_cases h1 : Lib.index l sub = -1
    · rw [h1]; rfl
    · rw [if_neg (by simpa using h1), decide_eq_decide]; omega
theorem beqC (a b : UInt8) : (a == b) = (b == a) := by
  rw [show (a == b) = decide (a = b) from rfl, show (b == a) = decide (b = a) from rfl, decide_eq_decide]
  exact ⟨fun h => h.symm, fun h => h.symm⟩
theorem dbl_contains (l : List UInt8) : Lib.contains l [32, 32] = dblB l := by
  induction l with
  | nil => rfl
  | cons a l ih =>
    rw [contains_cons, ih]
    cases l with
    | nil => simp [List.isPrefixOf, dblB]
    | cons b l =>
      simp only [List.isPrefixOf, dblB, Bool.and_true]
      have e1 : ((32 : UInt8) == a) = (a == 32) := beqC 32 a
      have e2 : ((32 : UInt8) == b) = (b == 32) := beqC 32 b
      rw [e1, e2]
theorem suf_has (l : List UInt8) : Lib.hasSuffix l [32] = sufB l := by
  unfold Lib.hasSuffix
  rw [Bool.eq_iff_iff, List.isSuffixOf_iff_suffix]
  induction l with
  | nil => simp [sufB]
  | cons a l ih =>
    rw [List.suffix_cons_iff, ih]
    cases l with
    | nil => simp [sufB]; exact eq_comm
    | cons b l => simp [sufB]
theorem pre_has (l : List UInt8) : Lib.hasPrefix l [32] = decide (l.head? = some 32) := by
  unfold Lib.hasPrefix
  cases l with
  | nil => rfl
  | cons a l =>
    show ((32 : UInt8) == a && List.isPrefixOf [] l) = _
    rw [show List.isPrefixOf ([] : List UInt8) l = true by cases l <;> rfl, Bool.and_true, List.head?_cons]
    rw [show ((32 : UInt8) == a) = decide ((32 : UInt8) = a) from rfl, decide_eq_decide]
    constructor
    · intro h; rw [h]
    · intro h; injection h with h; exact h.symm
/-- The two ways to ask for no blanks beside blanks. -/
theorem plain_prog (l : List UInt8) : plainL l = (!Lib.hasPrefix l [32] && !Lib.hasSuffix l [32] && !Lib.contains l [32, 32]) := by
  rw [dbl_contains, suf_has, pre_has]
  unfold plainL
  cases l with
  | nil => rfl
  | cons c l =>
    rw [okA_prog]
    simp only [reduceCtorEq, decide_false, Bool.false_or, List.head?_cons, Option.some.injEq, Bool.true_and]
    have e : (c == 32) = decide (c = 32) := rfl
    generalize dblB (c :: l) = x
    generalize sufB (c :: l) = y
    by_cases hc : c = 32
    · simp [hc]
    · have e : (c == 32) = false := beq_eq_false_iff_ne.2 hc
      simp only [e, hc, decide_false]; cases x <;> cases y <;> rfl
/-- All bytes from 32 to 126. -/
def prB (c : UInt8) : Bool := decide (32 ≤ c.toNat) && decide (c.toNat ≤ 126)
def plainB (s : ByteArray) : Bool := allB prB s && plainL s.data.toList
end Go.Proofs.YtnemcnpilngblaaDoor

/- Reading slates, in plain words. No program in sight. -/
namespace Go.Proofs.YtnemcnpilngblaaDoor
set_option linter.unusedVariables false
open Go.RowKit

theorem empty_iff (s : ByteArray) : s.toList.isEmpty = true ↔ s = ⟨#[]⟩ := by
  rw [ByteArray.toList_eq]
  constructor
  · intro h; exact ba_ext (by simpa using h)
  · rintro rfl; rfl
end Go.Proofs.YtnemcnpilngblaaDoor

