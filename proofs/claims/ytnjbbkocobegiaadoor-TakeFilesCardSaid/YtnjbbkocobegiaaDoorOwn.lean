/- Slices that a call of one's own fills by append, with elements that may hold slices of their own. -/
import Derived.Test.YtnjbbkocobegiaaDoorRep
import Derived.Deep.AppendLies
namespace Go.Proofs.YtnjbbkocobegiaaDoor
set_option linter.unusedVariables false
open Go.RowKit

/-- What lies from block lo on, but for one block. -/
def From (w : World) (lo : Nat) (own : Option Nat) (b : Nat) : Prop := lo ≤ b ∧ b < w.heap.size ∧ some b ≠ own
/-- The value v owns the elements l, in a row from block base on; what they hold lies from block lo on, apart from that row. -/
def Own {α : Type} (R : Rep α) (w : World) (base lo : Nat) (e : TypeId) (l : List α) (v : Value) : Prop :=
  ∃ xs, w.ownsRow base e R.n v l.length xs ∧ Lay R w (From w lo v.ownBlock) l xs

section
variable {α : Type} {R : Rep α} {w w' w1 : World} {base lo : Nat} {e : TypeId} {l : List α} {v : Value}
theorem Own.nil_ : Own R w base lo e [] (.slice none 0 0) := ⟨[], World.ownsRow_nil w base e R.n, Lay.nil_⟩
theorem Own.form (h : Own R w base lo e l v) : (v = .slice none 0 0 ∧ l = []) ∨ ∃ g cap, v = .slice (some ⟨g, 0, none⟩) l.length cap ∧ base ≤ g ∧ g < w.heap.size ∧ l.length ≤ cap ∧ cap ≤ 9223372036854775807 := by
  obtain ⟨xs, ho, _⟩ := h
  rcases ho.2 with ⟨hv, h0⟩ | ⟨g, cap, cur, hv, hb, hg, hc, hm, _⟩
  · exact .inl ⟨hv, List.length_eq_zero_iff.1 h0⟩
  · exact .inr ⟨g, cap, hv, hb, heap_lt' hg, hc, by unfold maxLen at hm; omega⟩
where heap_lt' {w : World} {b : Nat} {o : Obj} (h : w.heap[b]? = some o) : b < w.heap.size := (Array.getElem?_eq_some_iff.1 h).1
theorem Own.block (h : Own R w base lo e l v) (g : Nat) (hg : v.ownBlock = some g) : base ≤ g ∧ g < w.heap.size := by
  obtain ⟨xs, ho, _⟩ := h
  exact ho.lt g hg
/-- It stays what it is where its row and what its elements hold stay. -/
theorem Own.keep (h : Own R w base lo e l v) (hs : w.heap.size ≤ w'.heap.size) (hk : ∀ b, (lo ≤ b ∨ v.ownBlock = some b) → b < w.heap.size → w'.heap[b]? = w.heap[b]?) : Own R w' base lo e l v := by
  obtain ⟨xs, ho, hl⟩ := h
  refine ⟨xs, ⟨ho.1, ?_⟩, (hl.keep fun b hb => hk b (.inl hb.1) hb.2.1).more fun b hb => ⟨hb.1, Nat.lt_of_lt_of_le hb.2.1 hs, hb.2.2⟩⟩
  rcases ho.2 with hn | ⟨g, cap, cur, rfl, hb, hg, rest⟩
  · exact .inl hn
  · exact .inr ⟨g, cap, cur, rfl, hb, by rw [hk g (.inr rfl) (Array.getElem?_eq_some_iff.1 hg).1]; exact hg, rest⟩
theorem Own.alloc (h : Own R w base lo e l v) (o : Obj) : Own R (w.alloc o) base lo e l v := h.keep (by simp) fun b _ hb => Below.heap_alloc w o b hb
theorem Own.drew (h : Own R w base lo e l v) : Own R w.drew base lo e l v := h.keep (Nat.le_refl _) fun _ _ _ => rfl
theorem Own.drewN (h : Own R w base lo e l v) (n : Nat) : Own R (w.drewN n) base lo e l v := h.keep (Nat.le_refl _) fun _ _ _ => rfl
theorem Own.below (h : Own R w base lo e l v) (hb : Below w.heap.size w w') : Own R w' base lo e l v := h.keep hb.size fun b _ hlt => hb.block b hlt
theorem Own.setCell (h : Own R w base lo e l v) {p : Addr} (u : Value) (h1 : p.block < lo) (h2 : v.ownBlock ≠ some p.block) : Own R (w.setCell p u) base lo e l v :=
  h.keep (by simp [World.setCell]) fun b hb _ => Below.heap_setCell w p u b (fun e => by
    subst e
    rcases hb with hb | hb
    · omega
    · exact h2 hb)
/-- Another row grows, or a stream turns. -/
theorem Own.grown {row : Option Nat} (h : Own R w base lo e l v) (hg : w.grownBy w' row) (h1 : ∀ k, row = some k → k < lo) (h2 : v.ownBlock = none ∨ v.ownBlock ≠ row) : Own R w' base lo e l v :=
  h.keep hg.size fun b hb hlt => hg.block b hlt (fun er => by
    rcases hb with hb | hb
    · have := h1 b er.symm; omega
    · rcases h2 with h2 | h2
      · rw [h2] at hb; cases hb
      · exact h2 (by rw [hb, er]))
/-- What it reads as. -/
theorem Own.sli {F : Nat → Prop} (h : Own R w base lo e l v) (hF : ∀ b, lo ≤ b → b < w.heap.size → F b) (hB : ∀ g, v.ownBlock = some g → F g) : Sli R w F l v := by
  obtain ⟨xs, ho, hl⟩ := h
  exact Sli.own ho (hl.more fun b hb => hF b hb.1 hb.2.1) rfl (fun b c hv => hB b (by rw [hv]; rfl))
/-- One element more has been appended. -/
theorem Own.push {row : List Value} {xs cs : List Value} {v' : Value} {g H : Nat} (hl : Lay R w (From w lo v.ownBlock) l xs) {y : α} (hy : R.rel w (From w lo v.ownBlock) y cs)
    (ho : w1.ownsRow base e R.n v' (l.length + 1) (xs ++ cs)) (hg : w.grownBy w1 v.ownBlock) (hv' : v'.ownBlock = some g) (hat : v.ownBlock = some g ∨ (g = H ∧ w.heap.size ≤ H)) : Own R w1 base lo e (l ++ [y]) v' := by
  have hF : ∀ b, From w lo v.ownBlock b → From w1 lo v'.ownBlock b := fun b hb => ⟨hb.1, Nat.lt_of_lt_of_le hb.2.1 hg.size, by
    rw [hv']
    rcases hat with h | ⟨h, h2⟩
    · rw [← h]; exact hb.2.2
    · intro e; injection e with e; have := hb.2.1; omega⟩
  have hk : ∀ b, From w lo v.ownBlock b → w1.heap[b]? = w.heap[b]? := fun b hb => hg.block b hb.2.1 hb.2.2
  exact ⟨_, by simpa using ho, ((hl.snoc hy).keep hk).more hF⟩
end
theorem gbTrans {w a b : World} {row : Option Nat} (h : w.grownBy a row) (g : a.grownBy b row) : w.grownBy b row :=
  ⟨g.os.trans h.os, g.tape.trans h.tape, g.output.trans h.output, Nat.le_trans h.size g.size, fun i hi hne => (g.block i (Nat.lt_of_lt_of_le hi h.size) hne).trans (h.block i hi hne)⟩
theorem oneC {cs : List Value} (h : cs.all (fun u => match u with | .agg _ | .tuple _ => false | _ => true) = true) : ∀ u ∈ cs, u.oneCell' = true := by
  intro u hu
  have := List.all_eq_true.1 h u hu
  cases u <;> first | rfl | cases this

/-- 'append(out, y)' at the operation: y has just been laid in a block of its own. -/
theorem wpList_push {P : Program} {α : Type} {R : Rep α} {ops : Array Oper} {rest : List Oper} {o : Oper} {a : Act} {Q : Exit → Act → World → Prop} (hgd : o.guard = none) (s x : Operand) (t : TypeId)
    (ho : o.op = .call { callee := .builtin .append, args := #[s, x], argTypes := #[t, t] })
    (base lo : Nat) (e : TypeId) (i : TypeInfo) (z : Value) (bytes : Nat) (ht : P.underlying t = some (.slice e)) (hi : P.info? e = some i) (hz : i.zero = some z)
    (hsize : i.size = R.n) (hby : i.bytes = bytes) (hzs : z.cells.size = R.n) (hsz : 0 < R.n)
    (w : World) (v : Value) (l : List α) (hs : a.eval s = v) (hown : Own R w base lo e l v) (y : α) (cs : List Value) (hy : R.rel w (From w lo v.ownBlock) y cs) (h1 : ∀ u ∈ cs, u.oneCell' = true)
    (T : TypeId) (c : Nat) (ca : Array Value) (hca : ca = cs.toArray) (hx : a.eval x = .slice (some ⟨w.heap.size, 0, none⟩) 1 c) (h63 : l.length + 1 ≤ maxLen) (hbytes : (l.length + 1) * bytes ≤ 140737488355328) (hbase : base ≤ w.heap.size)
    (h : ∀ g cap w', Own R w' base lo e (l ++ [y]) (.slice (some ⟨g, 0, none⟩) (l.length + 1) cap) → w.grownBy w' v.ownBlock → (v.ownBlock = some g ∨ g = w.heap.size + 1) → g < w'.heap.size → w.heap.size < w'.heap.size → wpList P ops Q rest (a.put o.dst (.slice (some ⟨g, 0, none⟩) (l.length + 1) cap)) w') :
    wpList P ops Q (o :: rest) a (w.alloc (.cells ca T)) := by
  subst hca
  obtain ⟨xs, hor, hl⟩ := hown
  have hn := R.len hy
  refine wpList_append_lies (w.alloc (.cells cs.toArray T)) hgd s x t ho base e i z R.n bytes ht hi hz hsize hby hzs hsz v l.length xs hs (hor.alloc _) ⟨w.heap.size, 0, none⟩ 1 c cs hx (by rw [hn, Nat.one_mul]) ?_ h1 (by omega) h63 hbytes (by simp; omega) (w.heap.size + 1) (by simp) ?_
  · intro j u hj
    exact World.news_of_block (heap_alloc_new w (.cells cs.toArray T)) j u (by simpa using hj)
  · intro g cap w' h2 h3 h4 h5
    have hg : w.grownBy w' v.ownBlock := gbTrans (World.grownBy_alloc w _ _) h3
    refine h g cap w' (Own.push (row := xs) (g := g) (H := w.heap.size + 1) hl hy h2 hg rfl (h4.imp id fun h => ⟨h, by omega⟩)) hg h4 h5 (by have := h3.size; simp at this; omega)
end Go.Proofs.YtnjbbkocobegiaaDoor
