/- Data that lies in memory: rows of elements, also elements that hold slices of their own. No program in sight. -/
import Derived.Test.YtnjbbkocobegiaaDoorMem
namespace Go.Proofs.YtnjbbkocobegiaaDoor
set_option linter.unusedVariables false
open Go.RowKit

/-- How a kind of data lies: so many cells; what they hold, and what lies behind them in blocks of F. -/
structure Rep (α : Type) where
  n : Nat
  rel : World → (Nat → Prop) → α → List Value → Prop
  len : ∀ {w F x cs}, rel w F x cs → cs.length = n
  keep : ∀ {w w' : World} {F : Nat → Prop} {x cs}, rel w F x cs → (∀ b, F b → w'.heap[b]? = w.heap[b]?) → rel w' F x cs
  more : ∀ {w F G x cs}, rel w F x cs → (∀ b, F b → G b) → rel w G x cs

/-- Data of cells alone. -/
def Rep.flat {α : Type} (n : Nat) (enc : α → List Value) (h : ∀ x, (enc x).length = n) : Rep α :=
  ⟨n, fun _ _ x cs => cs = enc x, fun e => by subst e; exact h _, fun e _ => e, fun e _ => e⟩
def strR : Rep ByteArray := Rep.flat 1 (fun s => [.string s]) (fun _ => rfl)
def intR : Rep Int := Rep.flat 1 (fun x => [.int .i64 x]) (fun _ => rfl)

/-- The cells of a row of elements. -/
def Lay {α : Type} (R : Rep α) (w : World) (F : Nat → Prop) (l : List α) (cs : List Value) : Prop :=
  cs.length = l.length * R.n ∧ ∀ (k : Nat) (x : α), l[k]? = some x → R.rel w F x ((cs.drop (k * R.n)).take R.n)

section
variable {α : Type} {R : Rep α} {w w' : World} {F G : Nat → Prop} {l : List α} {cs : List Value}
theorem Lay.nil_ : Lay R w F [] [] := ⟨by simp, fun k x h => by simp at h⟩
theorem Lay.keep (h : Lay R w F l cs) (hk : ∀ b, F b → w'.heap[b]? = w.heap[b]?) : Lay R w' F l cs := ⟨h.1, fun k x hx => R.keep (h.2 k x hx) hk⟩
theorem Lay.more (h : Lay R w F l cs) (hk : ∀ b, F b → G b) : Lay R w G l cs := ⟨h.1, fun k x hx => R.more (h.2 k x hx) hk⟩
theorem Lay.snoc {x : α} {a : List Value} (h : Lay R w F l cs) (ha : R.rel w F x a) : Lay R w F (l ++ [x]) (cs ++ a) := by
  have hl := R.len ha
  refine ⟨by simp [h.1, hl, Nat.add_mul], fun k y hy => ?_⟩
  by_cases hk : k < l.length
  · rw [List.getElem?_append_left hk] at hy
    have h2 := h.2 k y hy
    have h3 : (k + 1) * R.n ≤ cs.length := by rw [h.1]; exact Nat.mul_le_mul_right _ hk
    rw [Nat.add_mul, Nat.one_mul] at h3
    rw [List.drop_append_of_le_length (by omega), List.take_append_of_le_length (by simp; omega)]
    exact h2
  · have hk2 : k = l.length := by
      have := (List.getElem?_eq_some_iff.1 hy).1
      simp at this; omega
    subst hk2
    rw [List.getElem?_append_right (Nat.le_refl _)] at hy
    simp at hy
    subst hy
    rw [← h.1, List.drop_left' rfl, List.take_of_length_le (by omega)]
    exact ha
theorem Lay.app {l' : List α} {cs' : List Value} (h : Lay R w F l cs) (h' : Lay R w F l' cs') : Lay R w F (l ++ l') (cs ++ cs') := by
  refine ⟨by simp [h.1, h'.1, Nat.add_mul], fun k y hy => ?_⟩
  by_cases hk : k < l.length
  · rw [List.getElem?_append_left hk] at hy
    have h2 := h.2 k y hy
    have h3 : (k + 1) * R.n ≤ cs.length := by rw [h.1]; exact Nat.mul_le_mul_right _ hk
    rw [Nat.add_mul, Nat.one_mul] at h3
    rw [List.drop_append_of_le_length (by omega), List.take_append_of_le_length (by simp; omega)]
    exact h2
  · rw [List.getElem?_append_right (by omega)] at hy
    have := h'.2 _ y hy
    rw [show (cs ++ cs').drop (k * R.n) = cs'.drop ((k - l.length) * R.n) by
      rw [List.drop_append, List.drop_eq_nil_of_le (by rw [h.1]; exact Nat.mul_le_mul_right _ (by omega)), List.nil_append, h.1, Nat.sub_mul]]
    exact this
theorem Lay.one {x : α} {a : List Value} (ha : R.rel w F x a) : Lay R w F [x] a := by simpa using Lay.nil_.snoc ha
theorem Lay.drop (h : Lay R w F l cs) (k : Nat) : Lay R w F (l.drop k) (cs.drop (k * R.n)) := by
  refine ⟨by simp [h.1, Nat.sub_mul], fun j x hx => ?_⟩
  rw [List.getElem?_drop] at hx
  have := h.2 _ x hx
  rw [List.drop_drop, ← Nat.add_mul]
  exact this
theorem Lay.take (h : Lay R w F l cs) (k : Nat) : Lay R w F (l.take k) (cs.take (k * R.n)) := by
  refine ⟨?_, fun j x hx => ?_⟩
  · rw [List.length_take, List.length_take, h.1]
    rcases Nat.le_total k l.length with hk | hk
    · rw [Nat.min_eq_left hk, Nat.min_eq_left (Nat.mul_le_mul_right _ hk)]
    · rw [Nat.min_eq_right hk, Nat.min_eq_right (Nat.mul_le_mul_right _ hk)]
  · have hj : j < k := by
      have := (List.getElem?_eq_some_iff.1 hx).1
      simp at this; omega
    rw [List.getElem?_take_of_lt hj] at hx
    have h2 := h.2 j x hx
    have h3 : (j + 1) * R.n ≤ k * R.n := Nat.mul_le_mul_right _ hj
    rw [Nat.add_mul, Nat.one_mul] at h3
    rw [List.drop_take, List.take_take, Nat.min_eq_left (by omega)]
    exact h2
end

/-- A slice value that reads as a list. -/
def Sli {α : Type} (R : Rep α) (w : World) (F : Nat → Prop) (l : List α) (v : Value) : Prop :=
  ∃ A c, v = .slice A l.length c ∧ l.length ≤ c ∧ c ≤ 9223372036854775807 ∧ (0 < l.length → ∃ b off cs, A = some ⟨b, off, none⟩ ∧ F b ∧ Lay R w F l cs ∧ ∀ j u, cs[j]? = some u → w.cell? ⟨b, off + j, none⟩ = some u)

section
variable {α : Type} {R : Rep α} {w w' : World} {F G : Nat → Prop} {l : List α} {v : Value}
theorem cell_of_heap {b o : Nat} (h : w'.heap[b]? = w.heap[b]?) : w'.cell? ⟨b, o, none⟩ = w.cell? ⟨b, o, none⟩ := World.cell?_of_block (a := ⟨b, o, none⟩) h
theorem Sli.keep (h : Sli R w F l v) (hk : ∀ b, F b → w'.heap[b]? = w.heap[b]?) : Sli R w' F l v := by
  obtain ⟨A, c, e, h1, h2, h3⟩ := h
  refine ⟨A, c, e, h1, h2, fun h0 => ?_⟩
  obtain ⟨b, off, cs, ea, hb, hl, hc⟩ := h3 h0
  exact ⟨b, off, cs, ea, hb, hl.keep hk, fun j u hj => (cell_of_heap (hk b hb)).trans (hc j u hj)⟩
theorem Sli.more (h : Sli R w F l v) (hk : ∀ b, F b → G b) : Sli R w G l v := by
  obtain ⟨A, c, e, h1, h2, h3⟩ := h
  refine ⟨A, c, e, h1, h2, fun h0 => ?_⟩
  obtain ⟨b, off, cs, ea, hb, hl, hc⟩ := h3 h0
  exact ⟨b, off, cs, ea, hk b hb, hl.more hk, hc⟩
theorem Sli.nil_ : Sli R w F [] (.slice none 0 0) := ⟨none, 0, rfl, Nat.le_refl _, by omega, fun h => absurd h (by simp)⟩
theorem Sli.below {B : Nat} (h : Sli R w F l v) (hb : Below B w w') (hF : ∀ b, F b → b < B) : Sli R w' F l v := h.keep fun b hf => hb.block b (hF b hf)
theorem Sli.alloc (h : Sli R w F l v) (o : Obj) (hF : ∀ b, F b → b < w.heap.size) : Sli R (w.alloc o) F l v := h.keep fun b hf => Below.heap_alloc w o b (hF b hf)
theorem Sli.drew (h : Sli R w F l v) : Sli R w.drew F l v := h.keep fun _ _ => rfl
theorem Sli.drewN (h : Sli R w F l v) (n : Nat) : Sli R (w.drewN n) F l v := h.keep fun _ _ => rfl
theorem Sli.setCell (h : Sli R w F l v) {p : Addr} (u : Value) (hF : ¬ F p.block) : Sli R (w.setCell p u) F l v :=
  h.keep fun b hf => Below.heap_setCell w p u b (fun e => hF (by rw [← e]; exact hf))
theorem Sli.grown {g : Nat} (h : Sli R w F l v) (hg : w.grownBy w' (some g)) (hF : ∀ b, F b → b < w.heap.size ∧ b ≠ g) : Sli R w' F l v :=
  h.keep fun b hf => hg.block b (hF b hf).1 (by simpa using (hF b hf).2)
/-- Its form, and element k. -/
theorem Sli.form (h : Sli R w F l v) : ∃ A c, v = .slice A l.length c ∧ l.length ≤ c ∧ c ≤ 9223372036854775807 := by
  obtain ⟨A, c, e, h1, h2, _⟩ := h; exact ⟨A, c, e, h1, h2⟩
theorem Sli.at_ {A : Option Addr} {n c : Nat} (h : Sli R w F l (.slice A n c)) (k : Nat) (hk : k < l.length) :
    ∃ b off a, A = some ⟨b, off, none⟩ ∧ F b ∧ R.rel w F l[k] a ∧ ∀ j u, a[j]? = some u → w.cell? ⟨b, off + k * R.n + j, none⟩ = some u := by
  obtain ⟨A', c', e, h1, h2, h3⟩ := h
  injection e with e1 e2 e3
  subst e1
  obtain ⟨b, off, cs, ea, hb, hl, hc⟩ := h3 (by omega)
  refine ⟨b, off, _, ea, hb, hl.2 k _ (List.getElem?_eq_getElem hk), fun j u hj => ?_⟩
  rw [List.getElem?_take] at hj
  split at hj
  · rw [List.getElem?_drop] at hj
    rw [Nat.add_assoc]; exact hc _ u hj
  · cases hj
theorem Sli.take_ {A : Option Addr} {n c : Nat} (h : Sli R w F l (.slice A n c)) (k : Nat) (hk : k ≤ l.length) : Sli R w F (l.take k) (.slice A k c) := by
  obtain ⟨A', c', e, h1, h2, h3⟩ := h
  injection e with e1 e2 e3
  subst e1; subst e3
  refine ⟨A, c, by rw [List.length_take, Nat.min_eq_left hk], by simp; omega, h2, fun h0 => ?_⟩
  obtain ⟨b, off, cs, ea, hb, hl, hc⟩ := h3 (by simp at h0; omega)
  refine ⟨b, off, _, ea, hb, hl.take k, fun j u hj => hc j u ?_⟩
  rw [List.getElem?_take] at hj
  split at hj
  · exact hj
  · cases hj
theorem Sli.drop_ {b off n c : Nat} (h : Sli R w F l (.slice (some ⟨b, off, none⟩) n c)) (k : Nat) (hk : k ≤ l.length) (n' c' : Nat) (hn : n' = l.length - k) (hc' : c' = c - k) : Sli R w F (l.drop k) (.slice (some ⟨b, off + k * R.n, none⟩) n' c') := by
  obtain ⟨A', c2, e, h1, h2, h3⟩ := h
  injection e with e1 e2 e3
  subst e1; subst e3; subst hn; subst hc'
  refine ⟨_, _, by rw [List.length_drop], by simp; omega, by omega, fun h0 => ?_⟩
  obtain ⟨b2, off2, cs, ea, hb, hl, hc⟩ := h3 (by simp at h0; omega)
  injection ea with ea
  injection ea with e1 e2
  subst e1; subst e2
  refine ⟨b, _, _, rfl, hb, hl.drop k, fun j u hj => ?_⟩
  rw [List.getElem?_drop] at hj
  rw [Nat.add_assoc]; exact hc _ u hj
/-- A slice that a call of one's own has filled. -/
theorem Sli.own {base e n : Nat} {xs : List Value} (h : w.ownsRow base e R.n v n xs) (hl : Lay R w F l xs) (hn : n = l.length) (hc : ∀ b c, v = .slice (some ⟨b, 0, none⟩) n c → F b) : Sli R w F l v := by
  subst hn
  rcases h.2 with ⟨rfl, h0⟩ | ⟨g, cap, cur, rfl, hb, hg, h1, h2, h3, h4⟩
  · obtain rfl : l = [] := List.length_eq_zero_iff.1 h0
    exact Sli.nil_
  · have hf := hc g cap rfl
    refine ⟨_, cap, rfl, h1, by unfold maxLen at h2; omega, fun _ => ⟨g, 0, xs, rfl, hf, hl, fun j u hj => ?_⟩⟩
    rw [Nat.zero_add]
    simp only [World.cell?, hg]
    rw [← h4] at hj
    rw [List.getElem?_take] at hj
    split at hj
    · simpa using hj
    · cases hj
/-- A row that has just been laid. -/
theorem Sli.new {cs : List Value} (T : TypeId) (c : Nat) (hl : Lay R (w.alloc (.cells cs.toArray T)) F l cs) (hF : F w.heap.size) (h1 : l.length ≤ c) (h2 : c ≤ 9223372036854775807) : Sli R (w.alloc (.cells cs.toArray T)) F l (.slice (some ⟨w.heap.size, 0, none⟩) l.length c) := by
  refine ⟨_, c, rfl, h1, h2, fun _ => ⟨_, 0, cs, rfl, hF, hl, fun j u hj => ?_⟩⟩
  rw [Nat.zero_add]
  have hg : (w.alloc (.cells cs.toArray T)).heap[w.heap.size]? = some (.cells cs.toArray T (0, 0)) := heap_alloc_new w _
  simp only [World.cell?, hg]
  simpa using hj
end

/-- Slices as elements. -/
def Rep.sli {α : Type} (R : Rep α) : Rep (List α) :=
  ⟨1, fun w F l cs => ∃ v, cs = [v] ∧ Sli R w F l v, fun h => by obtain ⟨v, rfl, _⟩ := h; rfl, fun h hk => by obtain ⟨v, e, h⟩ := h; exact ⟨v, e, h.keep hk⟩, fun h hk => by obtain ⟨v, e, h⟩ := h; exact ⟨v, e, h.more hk⟩⟩
end Go.Proofs.YtnjbbkocobegiaaDoor
