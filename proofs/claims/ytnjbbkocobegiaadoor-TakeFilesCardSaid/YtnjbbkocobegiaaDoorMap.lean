/- Maps with keys of one plain type (strings, ints, bools), as lists of pairs: a look-up, a store, in the walk. No program in sight. -/
import Derived.Test.YtnjbbkocobegiaaDoorMem
import Derived.Maps.OwnOps
import Derived.Maps.OwnSet
namespace Go.Proofs.YtnjbbkocobegiaaDoor
set_option linter.unusedVariables false
open Go.RowKit

/-- What a plain key type asks: keys are told apart by the model's quick look. -/
structure PlainKey (P : Program) (k : TypeId) {κ : Type} [DecidableEq κ] (mk : κ → Value) : Prop where
  desc : ∃ d, P.underlying k = some d ∧ (∀ a b, Instr.sameNow d (mk a) (mk b) = some (decide (a = b))) ∧
    (∀ ms, d ≠ .interface ms) ∧ (∀ n e, d ≠ .array n e) ∧ (∀ fs, d ≠ .struct fs)
  bits : ∀ a, Instr.sameBits 10000 (mk a) (mk a) = true

theorem plainKey_string {P : Program} {k : TypeId} (h : P.underlying k = some .string) : PlainKey P k Value.string :=
  ⟨⟨_, h, fun a b => by simp only [Instr.sameNow, beq_ba], by simp, by simp, by simp⟩, fun a => by simp [Instr.sameBits, beq_ba]⟩
theorem plainKey_int {P : Program} {k : TypeId} {q : IntKind} (h : P.underlying k = some (.int q)) : PlainKey P k (Value.int q) :=
  ⟨⟨_, h, fun a b => by simp only [Instr.sameNow]; congr 1, by simp, by simp, by simp⟩, fun a => by simp [Instr.sameBits]⟩

section
variable {κ : Type} [DecidableEq κ] {mk : κ → Value}

/-- What a map holds, oldest first, as keys and values. -/
def lk : List (κ × Value) → κ → Option Value
  | [], _ => none
  | (k, v) :: m, x => if x = k then some v else lk m x
def ix : List (κ × Value) → κ → Option (Nat × Value)
  | [], _ => none
  | (k, v) :: m, x => if x = k then some (0, v) else (ix m x).map fun p => (p.1 + 1, p.2)
def up : List (κ × Value) → κ → Value → List (κ × Value)
  | [], k, v => [(k, v)]
  | (k', v') :: m, k, v => if k = k' then (k, v) :: m else (k', v') :: up m k v

theorem lk_up (m : List (κ × Value)) (k : κ) (v : Value) (x : κ) : lk (up m k v) x = if x = k then some v else lk m x := by
  induction m with
  | nil => simp [up, lk]
  | cons p m ih =>
    obtain ⟨k', v'⟩ := p
    by_cases hk : k = k'
    · subst hk; by_cases hx : x = k <;> simp [up, lk, hx]
    · by_cases hx : x = k
      · subst hx; simp [up, lk, hk, ih]
      · simp [up, lk, hk, ih, hx]
theorem lk_ix (m : List (κ × Value)) (x : κ) : lk m x = (ix m x).map (·.2) := by
  induction m with
  | nil => rfl
  | cons p m ih =>
    obtain ⟨k', v'⟩ := p
    by_cases hx : x = k' <;> simp [lk, ix, hx, ih, Function.comp_def]

def pairs (mk : κ → Value) (m : List (κ × Value)) : List (Value × Value) := m.map fun p => (mk p.1, p.2)
def epairs (es : List MapEntry) : List (Value × Value) := es.map fun e => (e.key, e.val)

theorem find_ix {d : TypeDesc} (hd : ∀ a b, Instr.sameNow d (mk a) (mk b) = some (decide (a = b))) (x : κ) (m : List (κ × Value)) :
    ∀ (es : List MapEntry) (i : Nat), epairs es = pairs mk m → Instr.findNow d (mk x) es i = some ((ix m x).map fun p => (i + p.1, p.2)) := by
  induction m with
  | nil => intro es i h; simp [epairs, pairs] at h; subst h; rfl
  | cons p m ih =>
    obtain ⟨k', v'⟩ := p
    intro es i h
    obtain _ | ⟨e, es⟩ := es
    · simp [epairs, pairs] at h
    · simp only [epairs, pairs, List.map_cons, List.cons.injEq, Prod.mk.injEq] at h
      obtain ⟨⟨h1, h2⟩, h3⟩ := h
      simp only [Instr.findNow, h1, hd, ix]
      by_cases hx : x = k'
      · simp [hx, h2]
      · simp only [hx, decide_false, if_false]
        rw [ih es (i + 1) h3]
        cases ix m x <;> simp <;> omega

theorem up_none (m : List (κ × Value)) (k : κ) (v : Value) (h : ix m k = none) : up m k v = m ++ [(k, v)] := by
  induction m with
  | nil => rfl
  | cons p m ih =>
    obtain ⟨k', v'⟩ := p
    by_cases hk : k = k'
    · simp [ix, hk] at h
    · simp [ix, hk] at h; simp [up, hk, ih h]

theorem up_some (m : List (κ × Value)) (k : κ) (v : Value) (j : Nat) (u : Value) (h : ix m k = some (j, u)) :
    ∀ es : List MapEntry, epairs es = pairs mk m → (∃ e, es[j]? = some e ∧ e.key = mk k) ∧ epairs (es.modify j fun e => { e with key := mk k, val := v }) = pairs mk (up m k v) := by
  induction m generalizing j with
  | nil => simp [ix] at h
  | cons p m ih =>
    obtain ⟨k', v'⟩ := p
    intro es he
    obtain _ | ⟨e, es⟩ := es
    · simp [epairs, pairs] at he
    · simp only [epairs, pairs, List.map_cons, List.cons.injEq, Prod.mk.injEq] at he
      obtain ⟨⟨h1, h2⟩, h3⟩ := he
      by_cases hk : k = k'
      · subst hk
        simp [ix] at h
        obtain ⟨rfl, rfl⟩ := h
        simp [epairs, pairs, up, h1]
        exact h3
      · simp only [ix, hk, if_false] at h
        cases hx : ix m k with
        | none => rw [hx] at h; simp at h
        | some q =>
          rw [hx] at h
          simp at h
          obtain ⟨rfl, rfl⟩ := h
          obtain ⟨⟨e', g1, g2⟩, g3⟩ := ih _ hx es h3
          refine ⟨⟨e', by simpa using g1, g2⟩, ?_⟩
          simp only [up, hk, if_false]
          simp only [List.modify_succ_cons, epairs, pairs, List.map_cons, h1, h2] at g3 ⊢
          rw [g3]

/-- Block b is a map that holds m. -/
def MapL (w : World) (b : Nat) (mk : κ → Value) (m : List (κ × Value)) : Prop :=
  ∃ es clock, w.heap[b]? = some (.map es clock) ∧ epairs es.toList = pairs mk m

variable {w w' : World} {b B : Nat} {m : List (κ × Value)}
omit [DecidableEq κ] in
theorem MapL.lt (h : MapL w b mk m) : b < w.heap.size := by
  obtain ⟨es, clock, hb, _⟩ := h
  exact (Array.getElem?_eq_some_iff.1 hb).1
omit [DecidableEq κ] in
theorem MapL.keep (h : MapL w b mk m) (hk : w'.heap[b]? = w.heap[b]?) : MapL w' b mk m := by
  obtain ⟨es, clock, hb, h⟩ := h
  exact ⟨es, clock, hk.trans hb, h⟩
omit [DecidableEq κ] in
theorem MapL.below (h : MapL w b mk m) (hb : Below B w w') (hlt : b < B) : MapL w' b mk m := h.keep (hb.block b hlt)
omit [DecidableEq κ] in
theorem MapL.alloc (h : MapL w b mk m) (o : Obj) : MapL (w.alloc o) b mk m := h.keep (Below.heap_alloc w o b h.lt)
omit [DecidableEq κ] in
theorem MapL.setCell (h : MapL w b mk m) {p : Addr} (hne : b ≠ p.block) (u : Value) : MapL (w.setCell p u) b mk m := h.keep (Below.heap_setCell w p u b hne)
omit [DecidableEq κ] in
theorem MapL.drewN (h : MapL w b mk m) (n : Nat) : MapL (w.drewN n) b mk m := h
omit [DecidableEq κ] in
theorem MapL.made (w : World) : MapL (w.alloc (.map #[] 0)) w.heap.size mk ([] : List (κ × Value)) := ⟨#[], 0, heap_alloc_new w _, rfl⟩

theorem checkKey_plain {P : Program} {k : TypeId} (K : PlainKey P k mk) (x : κ) (c : Bool) (w : World) : (Instr.checkKey c 10000 k (mk x)).run P w = .ok () w := by
  obtain ⟨d, hd, _, h1, h2, h3⟩ := K.desc
  unfold Instr.checkKey
  simp only [Sem.run_bind, run_underlying hd, Result.andThen_ok]
  split <;> first | rfl | (exfalso; first | exact h1 _ rfl | exact h2 _ _ rfl | exact h3 _ rfl)

theorem run_lookup_plain {P : Program} {t k e : TypeId} (K : PlainKey P k mk) (ht : P.underlying t = some (.map k e)) {z : Value} (hz : (zeroValue e).run P w = .ok z w) (h : MapL w b mk m) (x : κ) (ok : Bool) :
    (Instr.lookup t (.map (some b)) (mk x) ok).run P w = .ok (if ok then .tuple #[(lk m x).getD z, .bool (lk m x).isSome] else (lk m x).getD z) w := by
  obtain ⟨es, clock, hb, he⟩ := h
  obtain ⟨d, hd, hs, _⟩ := K.desc
  have hck := fun c => checkKey_plain K x c w
  have hf := find_ix hs x m es.toList 0 he
  simp only [Nat.zero_add] at hf
  rw [lk_ix]
  cases hx : ix m x with
  | none =>
    rw [hx] at hf
    simp [Instr.lookup, run_underlying ht, getObj, Sem.run, hb, hck, Instr.findKey, run_underlying hd, hf, hz]
  | some p =>
    rw [hx] at hf
    simp [Instr.lookup, run_underlying ht, getObj, Sem.run, hb, hck, Instr.findKey, run_underlying hd, hf]

theorem run_update_plain {P : Program} {t k e : TypeId} (K : PlainKey P k mk) (ht : P.underlying t = some (.map k e)) (h : MapL w b mk m) (x : κ) (v : Value) :
    ∃ w', (Instr.mapUpdate t (.map (some b)) (mk x) v).run P w = .ok () w' ∧ MapL w' b mk (up m x v) ∧ w.grownBy w' (some b) := by
  obtain ⟨es, clock, hb, he⟩ := h
  obtain ⟨d, hd, hs, _⟩ := K.desc
  have hck := fun c => checkKey_plain K x c w
  have hf := find_ix hs x m es.toList 0 he
  simp only [Nat.zero_add] at hf
  have hgb : ∀ o, w.grownBy { w with heap := w.heap.setIfInBounds b o } (some b) := fun o =>
    ⟨rfl, rfl, rfl, by simp, fun i _ hi => by
      show (w.heap.setIfInBounds b o)[i]? = _
      rw [Array.getElem?_setIfInBounds_ne (fun e => hi (by rw [e]))]⟩
  have hlt : b < w.heap.size := (Array.getElem?_eq_some_iff.1 hb).1
  have hnew : ∀ o, (w.heap.setIfInBounds b o)[b]? = some o := fun o => by rw [Array.getElem?_setIfInBounds]; simp [hlt]
  cases hx : ix m x with
  | none =>
    rw [hx] at hf
    refine ⟨{ w with heap := w.heap.setIfInBounds b (.map (es.push { key := mk x, val := v, born := clock }) (clock + 1)) }, ?_, ⟨_, _, hnew _, ?_⟩, hgb _⟩
    · simp [Instr.mapUpdate, run_underlying ht, getObj, setObj, Sem.run, hb, hck, Instr.findKey, run_underlying hd, hf]
    · rw [up_none m x v hx]; simp [epairs, pairs] at he ⊢; exact he
  | some p =>
    obtain ⟨j, u⟩ := p
    rw [hx] at hf
    obtain ⟨⟨e0, h1, h2⟩, h3⟩ := up_some m x v j u hx es.toList he
    have h1' : es[j]? = some e0 := by simpa using h1
    refine ⟨{ w with heap := w.heap.setIfInBounds b (.map (es.modify j fun e => { e with key := mk x, val := v }) clock) }, ?_, ⟨_, _, hnew _, ?_⟩, hgb _⟩
    · simp [Instr.mapUpdate, run_underlying ht, getObj, setObj, Sem.run, hb, hck, Instr.findKey, run_underlying hd, hf, h1', h2, Instr.keyThatStays, K.bits]
    · rw [Array.toList_modify]; exact h3

/-- 'm[k]' at the operation. -/
theorem wpList_lookup_plain {P : Program} (w : World) {ops : Array Oper} {rest : List Oper} {o : Oper} {a : Act} {Q : Exit → Act → World → Prop}
    (hg : o.guard = none) (mo xo : Operand) (t : TypeId) (ok : Bool) (hop : o.op = Op.lookup t mo xo ok) (k e : TypeId) (K : PlainKey P k mk) (ht : P.underlying t = some (.map k e)) (z : Value) (hz : (zeroValue e).run P w = .ok z w)
    (b : Nat) (m : List (κ × Value)) (hm : a.eval mo = .map (some b)) (h : MapL w b mk m) (x : κ) (hx : a.eval xo = mk x)
    (hK : wpList P ops Q rest (a.put o.dst (if ok then .tuple #[(lk m x).getD z, .bool (lk m x).isSome] else (lk m x).getD z)) w) :
    wpList P ops Q (o :: rest) a w := by
  refine wpList_plain hg fun K' hK' => ?_
  have hrun := run_lookup_plain K ht hz h x ok
  unfold Oper.wp
  simp only [execOp, hop, hm, hx, hrun, Sem.run_bind, Result.andThen]
  exact hK' _ _ hK

/-- 'm[k] = v' at the operation. -/
theorem wpList_update_plain {P : Program} (w : World) {ops : Array Oper} {rest : List Oper} {o : Oper} {a : Act} {Q : Exit → Act → World → Prop}
    (hg : o.guard = none) (mo xo vo : Operand) (t : TypeId) (hop : o.op = Op.mapUpdate t mo xo vo) (k e : TypeId) (K : PlainKey P k mk) (ht : P.underlying t = some (.map k e))
    (b : Nat) (m : List (κ × Value)) (hm : a.eval mo = .map (some b)) (h : MapL w b mk m) (x : κ) (hx : a.eval xo = mk x) (v : Value) (hv : a.eval vo = v)
    (hK : ∀ w', MapL w' b mk (up m x v) → w.grownBy w' (some b) → wpList P ops Q rest (a.put o.dst undef) w') :
    wpList P ops Q (o :: rest) a w := by
  refine wpList_plain hg fun K' hK' => ?_
  obtain ⟨w', hrun, r1, r2⟩ := run_update_plain K ht h x v
  unfold Oper.wp
  simp [execOp, hop, hm, hx, hv, hrun, Result.andThen]
  exact hK' _ _ (hK w' r1 r2)
end
end Go.Proofs.YtnjbbkocobegiaaDoor
