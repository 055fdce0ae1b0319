/- Append of one element that lies in a block of its own. No program in sight. -/
import Derived.Test.YtnjbbkocobegiaaDoorOwn
import Derived.Deep.AppendLies
namespace Go.Proofs.YtnjbbkocobegiaaDoor
set_option linter.unusedVariables false
open Go.RowKit

/-- 'append(out, y)' at a step of a region that draws its order: y lies in a block of its own. -/
theorem step_push {P : Program} {α : Type} {R : Rep α} {ops : Array Oper} {o : Oper} {a : Act} {K : Act → World → Prop} {Q : Exit → Act → World → Prop} {E : Prop} (hgd : o.guard = none) (s x : Operand) (t : TypeId)
    (ho : o.op = .call { callee := .builtin .append, args := #[s, x], argTypes := #[t, t] })
    (base lo : Nat) (e : TypeId) (i : TypeInfo) (z : Value) (bytes : Nat) (ht : P.underlying t = some (.slice e)) (hi : P.info? e = some i) (hz : i.zero = some z)
    (hsize : i.size = R.n) (hby : i.bytes = bytes) (hzs : z.cells.size = R.n) (hsz : 0 < R.n)
    (W : World) (v : Value) (l : List α) (hs : a.eval s = v) (hown : Own R W base lo e l v) (y : α) (cs : List Value) (hy : R.rel W (From W lo v.ownBlock) y cs) (h1 : ∀ u ∈ cs, u.oneCell' = true)
    (B : Nat) (T : TypeId) (c : Nat) (hB : W.heap[B]? = some (.cells cs.toArray T (0, 0))) (hx : a.eval x = .slice (some ⟨B, 0, none⟩) 1 c) (h63 : l.length + 1 ≤ maxLen) (hbytes : (l.length + 1) * bytes ≤ 140737488355328) (hbase : base ≤ W.heap.size)
    (h : ∀ g cap w', Own R w' base lo e (l ++ [y]) (.slice (some ⟨g, 0, none⟩) (l.length + 1) cap) → W.grownBy w' v.ownBlock → (v.ownBlock = some g ∨ g = W.heap.size) → g < w'.heap.size → K (a.put o.dst (.slice (some ⟨g, 0, none⟩) (l.length + 1) cap)) w') :
    if Region.wanted o (yielded ops a.tmps) = true then Oper.wp P o a W K Q else E := by
  obtain ⟨xs, hor, hl⟩ := hown
  have hn := R.len hy
  refine step_append_lies W hgd s x t ho base e i z R.n bytes ht hi hz hsize hby hzs hsz v l.length xs hs hor ⟨B, 0, none⟩ 1 c cs hx (by rw [hn, Nat.one_mul]) ?_ h1 (by omega) h63 hbytes hbase W.heap.size rfl ?_
  · intro j u hj
    exact World.news_of_block hB j u (by simpa using hj)
  · intro g cap w' h2 h3 h4 h5
    exact h g cap w' (Own.push (row := xs) (g := g) (H := W.heap.size) hl hy h2 h3 rfl (h4.imp id fun h => ⟨h, Nat.le_refl _⟩)) h3 h4 h5

/-- 'append(out, y)' at the operation: y lies in a block of its own. -/
theorem wpList_pushB {P : Program} {α : Type} {R : Rep α} {ops : Array Oper} {rest : List Oper} {o : Oper} {a : Act} {Q : Exit → Act → World → Prop} (hgd : o.guard = none) (s x : Operand) (t : TypeId)
    (ho : o.op = .call { callee := .builtin .append, args := #[s, x], argTypes := #[t, t] })
    (base lo : Nat) (e : TypeId) (i : TypeInfo) (z : Value) (bytes : Nat) (ht : P.underlying t = some (.slice e)) (hi : P.info? e = some i) (hz : i.zero = some z)
    (hsize : i.size = R.n) (hby : i.bytes = bytes) (hzs : z.cells.size = R.n) (hsz : 0 < R.n)
    (W : World) (v : Value) (l : List α) (hs : a.eval s = v) (hown : Own R W base lo e l v) (y : α) (cs : List Value) (hy : R.rel W (From W lo v.ownBlock) y cs) (h1 : ∀ u ∈ cs, u.oneCell' = true)
    (B : Nat) (T : TypeId) (c : Nat) (hB : W.heap[B]? = some (.cells cs.toArray T (0, 0))) (hx : a.eval x = .slice (some ⟨B, 0, none⟩) 1 c) (h63 : l.length + 1 ≤ maxLen) (hbytes : (l.length + 1) * bytes ≤ 140737488355328) (hbase : base ≤ W.heap.size)
    (h : ∀ g cap w', Own R w' base lo e (l ++ [y]) (.slice (some ⟨g, 0, none⟩) (l.length + 1) cap) → W.grownBy w' v.ownBlock → (v.ownBlock = some g ∨ g = W.heap.size) → g < w'.heap.size → wpList P ops Q rest (a.put o.dst (.slice (some ⟨g, 0, none⟩) (l.length + 1) cap)) w') :
    wpList P ops Q (o :: rest) a W := by
  obtain ⟨xs, hor, hl⟩ := hown
  have hn := R.len hy
  refine wpList_append_lies W hgd s x t ho base e i z R.n bytes ht hi hz hsize hby hzs hsz v l.length xs hs hor ⟨B, 0, none⟩ 1 c cs hx (by rw [hn, Nat.one_mul]) ?_ h1 (by omega) h63 hbytes hbase W.heap.size rfl ?_
  · intro j u hj
    exact World.news_of_block hB j u (by simpa using hj)
  · intro g cap w' h2 h3 h4 h5
    exact h g cap w' (Own.push (row := xs) (g := g) (H := W.heap.size) hl hy h2 h3 rfl (h4.imp id fun h => ⟨h, Nat.le_refl _⟩)) h3 h4 h5

end Go.Proofs.YtnjbbkocobegiaaDoor
