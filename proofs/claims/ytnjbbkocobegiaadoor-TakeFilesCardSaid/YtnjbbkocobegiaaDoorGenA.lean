/- The generator's words for literal lists; rolls. -/
import Derived.Test.YtnjbbkocobegiaaDoorRows
import Derived.Test.YtnjbbkocobegiaaDoorGen
import Derived.Test.YtnjbbkocobegiaaDoorRollS
namespace Go.Proofs.YtnjbbkocobegiaaDoor
set_option linter.unusedVariables false
open Go.RowKit

section
variable {a w w' w1 : World} {sb : Nat} {k : Int}
theorem gRefl (w : World) (sb : Nat) : w.grownBy w (some sb) := ⟨rfl, rfl, rfl, Nat.le_refl _, fun _ _ _ => rfl⟩
theorem gTrans (h : a.grownBy w (some sb)) (g : w.grownBy w1 (some sb)) : a.grownBy w1 (some sb) :=
  ⟨g.os.trans h.os, g.tape.trans h.tape, g.output.trans h.output, Nat.le_trans h.size g.size, fun i hi hne => (g.block i (Nat.lt_of_lt_of_le hi h.size) hne).trans (h.block i hi hne)⟩
theorem gAlloc (h : a.grownBy w (some sb)) (o : Obj) : a.grownBy (w.alloc o) (some sb) :=
  gTrans h ⟨rfl, rfl, rfl, by simp, fun i hi _ => Below.heap_alloc w o i hi⟩
theorem gBelow (h : a.grownBy w (some sb)) (hb : Below w.heap.size w w1) : a.grownBy w1 (some sb) :=
  gTrans h ⟨hb.os, hb.tape, hb.output, hb.size, fun i hi _ => hb.block i hi⟩
theorem gSet (h : a.grownBy w (some sb)) {p : Addr} (hp : a.heap.size ≤ p.block) (v : Value) : a.grownBy (w.setCell p v) (some sb) :=
  ⟨h.os, h.tape, h.output, by simpa [World.setCell] using h.size, fun i hi hne => (Below.heap_setCell w p v i (by omega)).trans (h.block i hi hne)⟩
/-- What a stream's call leaves as it was, as rules for the walk. -/
theorem gcell (h : w.grownBy w1 (some sb)) : (∀ b o, b < w.heap.size → b ≠ sb → w1.cell? ⟨b, o, none⟩ = w.cell? ⟨b, o, none⟩) ∧ (∀ b o, b < w.heap.size → b ≠ sb → w1.frozen? ⟨b, o, none⟩ = w.frozen? ⟨b, o, none⟩) :=
  ⟨fun b o hb hne => World.cell?_of_block (h.block b hb (by simpa using hne)), fun b o hb hne => World.frozen?_of_block (h.block b hb (by simpa using hne))⟩
theorem Str.lt (h : Str w sb k) : sb < w.heap.size := by
  obtain ⟨A, c, l, hb, _⟩ := h
  exact heap_lt hb
theorem Str.nonneg (h : Str w sb k) : 0 ≤ k := by
  obtain ⟨A, c, l, hb, h0, _⟩ := h
  exact h0
theorem Str.keep (h : Str w sb k) (hk : ∀ b, b ≤ sb → w1.heap[b]? = w.heap[b]?) : Str w1 sb k := by
  obtain ⟨A, c, l, hb, h0, hr, hl, ho⟩ := h
  exact ⟨A, c, l, (hk sb (Nat.le_refl _)).trans hb, h0, hr.keep (fun p _ hp => World.cell?_of_block (hk p.block (by omega))), hl, ho⟩
theorem Str.alloc (h : Str w sb k) (o : Obj) : Str (w.alloc o) sb k := h.keep fun b hb => Below.heap_alloc w o b (by have := h.lt; omega)
theorem Str.below (h : Str w sb k) (hb : Below w.heap.size w w1) : Str w1 sb k := h.keep fun b hb' => hb.block b (by have := h.lt; omega)
theorem Str.setCell (h : Str w sb k) {p : Addr} (hp : sb < p.block) (v : Value) : Str (w.setCell p v) sb k := h.keep fun b hb => Below.heap_setCell w p v b (by omega)
theorem Str.drew (h : Str w sb k) : Str w.drew sb k := h
theorem gDrew (h : a.grownBy w (some sb)) : a.grownBy w.drew (some sb) := ⟨h.os, h.tape, h.output, h.size, h.block⟩
theorem Rs.new1 {α : Type} (w : World) (l : List α) (enc1 : α → Value) (T : TypeId) (lo : Nat) (hlo : lo ≤ w.heap.size) : Rs (w.alloc (.cells (l.map enc1).toArray T)) lo (w.heap.size + 1) 1 (fun x => [enc1 x]) (some ⟨w.heap.size, 0, none⟩) l := by
  intro _
  refine ⟨_, _, rfl, hlo, by omega, fun j x hx i u hu => ?_⟩
  have hb : (w.alloc (.cells (l.map enc1).toArray T)).heap[w.heap.size]? = some (.cells (l.map enc1).toArray T (0, 0)) := heap_alloc_new w _
  rw [(str_cells hb).1]
  cases i with
  | zero => simp at hu; simp [hx, hu]
  | succ i => simp at hu

theorem pickL (w : World) (l : List Int) (cs : Array Value) (T n c : Nat) (hcs : cs = (l.map (Value.int .i64)).toArray) (hn : n = l.length) (h0 : 0 < n) (h1 : n ≤ 1000) (hs : Str w sb k) (hk : k ≤ 4611686018427387904) :
    Calls Tryd.prog 22 #[.pointer (some ⟨sb, 0, none⟩), .slice (some ⟨w.heap.size, 0, none⟩) n c] (w.alloc (.cells cs T)) (Took sb k 1 (isInt (· ∈ l)) (w.alloc (.cells cs T))) := by
  subst hcs; subst hn
  exact pick_c sb k _ l c w.heap.size (w.heap.size + 1) _ (hs.alloc _) hk h0 (by omega) (Rs.new1 w l (.int .i64) T _ (Nat.le_refl _)) hs.lt (by simp)
theorem oneL (w : World) (l : List ByteArray) (cs : Array Value) (T n c : Nat) (hcs : cs = (l.map Value.string).toArray) (hn : n = l.length) (h0 : 0 < n) (h1 : n ≤ 1000) (hs : Str w sb k) (hk : k ≤ 4611686018427387904) :
    Calls Tryd.prog 17 #[.pointer (some ⟨sb, 0, none⟩), .slice (some ⟨w.heap.size, 0, none⟩) n c] (w.alloc (.cells cs T)) (Took sb k 1 (isStr (· ∈ l)) (w.alloc (.cells cs T))) := by
  subst hcs; subst hn
  exact one_c sb k _ l c w.heap.size (w.heap.size + 1) _ (hs.alloc _) hk h0 (by omega) (Rs.new1 w l .string T _ (Nat.le_refl _)) hs.lt (by simp)
end

/-- What a roll of the generator stays within. -/
def rollBd (r : Roll) : Prop := r.name.size ≤ 1000 ∧ -10000000 ≤ r.rate ∧ r.rate ≤ 10000000 ∧ -10000000 ≤ r.start ∧ r.start ≤ 10000000 ∧ -10000000 ≤ r.long ∧ r.long ≤ 10000000 ∧ -10000000 ≤ r.drift ∧ r.drift ≤ 10000000
end Go.Proofs.YtnjbbkocobegiaaDoor
