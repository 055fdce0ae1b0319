/- Three slices of strings that one call fills side by side. -/
import Derived.Test.YtnjbbkocobegiaaDoorOwn2
namespace Go.Proofs.YtnjbbkocobegiaaDoor
set_option linter.unusedVariables false
open Go.RowKit

theorem Own.strKeep {w w' : World} {base lo : Nat} {e : TypeId} {l : List ByteArray} {v : Value} (h : Own strR w base lo e l v) (hk : ∀ g, v.ownBlock = some g → g < w.heap.size → w'.heap[g]? = w.heap[g]?) : Own strR w' base lo e l v := by
  obtain ⟨xs, ho, hl⟩ := h
  refine ⟨xs, ⟨ho.1, ?_⟩, ⟨hl.1, fun k x hx => hl.2 k x hx⟩⟩
  rcases ho.2 with hn | ⟨g, cap, cur, rfl, hb, hg, rest⟩
  · exact .inl hn
  · exact .inr ⟨g, cap, cur, rfl, hb, by rw [hk g rfl (Array.getElem?_eq_some_iff.1 hg).1]; exact hg, rest⟩
def Dis (v v' : Value) : Prop := ∀ g, v.ownBlock = some g → v'.ownBlock = some g → False
theorem Dis.symm {v v' : Value} (h : Dis v v') : Dis v' v := fun g a b => h g b a
theorem Dis.nil_ {v : Value} : Dis v (.slice none 0 0) := fun g _ b => by cases b
def Rows3 (w : World) (base : Nat) (l1 l2 l3 : List ByteArray) (v1 v2 v3 : Value) : Prop :=
  Own strR w base base 9 l1 v1 ∧ Own strR w base base 9 l2 v2 ∧ Own strR w base base 9 l3 v3 ∧ Dis v1 v2 ∧ Dis v1 v3 ∧ Dis v2 v3
section
variable {w w' : World} {base : Nat} {l1 l2 l3 : List ByteArray} {v1 v2 v3 : Value}
theorem Rows3.nil_ : Rows3 w base [] [] [] (.slice none 0 0) (.slice none 0 0) (.slice none 0 0) := ⟨Own.nil_, Own.nil_, Own.nil_, Dis.nil_, Dis.nil_, Dis.nil_⟩
theorem Rows3.below (h : Rows3 w base l1 l2 l3 v1 v2 v3) (hb : Below w.heap.size w w') : Rows3 w' base l1 l2 l3 v1 v2 v3 := ⟨h.1.below hb, h.2.1.below hb, h.2.2.1.below hb, h.2.2.2⟩
theorem Rows3.alloc (h : Rows3 w base l1 l2 l3 v1 v2 v3) (o : Obj) : Rows3 (w.alloc o) base l1 l2 l3 v1 v2 v3 := ⟨h.1.alloc o, h.2.1.alloc o, h.2.2.1.alloc o, h.2.2.2⟩
theorem Rows3.drew (h : Rows3 w base l1 l2 l3 v1 v2 v3) : Rows3 w.drew base l1 l2 l3 v1 v2 v3 := ⟨h.1.drew, h.2.1.drew, h.2.2.1.drew, h.2.2.2⟩
theorem Rows3.drewN (h : Rows3 w base l1 l2 l3 v1 v2 v3) (n : Nat) : Rows3 (w.drewN n) base l1 l2 l3 v1 v2 v3 := ⟨h.1.drewN n, h.2.1.drewN n, h.2.2.1.drewN n, h.2.2.2⟩
theorem Rows3.s12 (h : Rows3 w base l1 l2 l3 v1 v2 v3) : Rows3 w base l2 l1 l3 v2 v1 v3 := ⟨h.2.1, h.1, h.2.2.1, h.2.2.2.1.symm, h.2.2.2.2.2, h.2.2.2.2.1⟩
theorem Rows3.s13 (h : Rows3 w base l1 l2 l3 v1 v2 v3) : Rows3 w base l3 l2 l1 v3 v2 v1 := ⟨h.2.2.1, h.2.1, h.1, h.2.2.2.2.2.symm, h.2.2.2.2.1.symm, h.2.2.2.1.symm⟩
theorem Rows3.push {l1' : List ByteArray} {v1' : Value} {g : Nat} (h : Rows3 w base l1 l2 l3 v1 v2 v3) (ho : Own strR w' base base 9 l1' v1') (hg : w.grownBy w' v1.ownBlock) (hv : v1'.ownBlock = some g) (hat : v1.ownBlock = some g ∨ g = w.heap.size) : Rows3 w' base l1' l2 l3 v1' v2 v3 := by
  have hd : ∀ v l, Own strR w base base 9 l v → Dis v1 v → Dis v1' v := by
    intro v l hl hd g' h1 h2
    have e : g = g' := by rw [hv] at h1; injection h1
    subst e
    rcases hat with hat | hat
    · exact hd g hat h2
    · have := (hl.block g h2).2; omega
  refine ⟨ho, h.2.1.strKeep fun g' e hlt => hg.block g' hlt fun e2 => h.2.2.2.1 g' e2.symm e, h.2.2.1.strKeep fun g' e hlt => hg.block g' hlt fun e2 => h.2.2.2.2.1 g' e2.symm e, hd _ _ h.2.1 h.2.2.2.1, hd _ _ h.2.2.1 h.2.2.2.2.1, h.2.2.2.2.2⟩
end
end Go.Proofs.YtnjbbkocobegiaaDoor
