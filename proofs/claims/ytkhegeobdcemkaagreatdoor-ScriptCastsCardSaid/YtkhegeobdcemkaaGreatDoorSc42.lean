/- Texts packed: TkB. -/
import Derived.Test.YtkhegeobdcemkaaGreatDoorSc02
import Derived.Test.YtkhegeobdcemkaaGreatDoorSc03
import Derived.Test.YtkhegeobdcemkaaGreatDoorSc26
import Derived.Test.YtkhegeobdcemkaaGreatDoorSc01
import Derived.Deep.QuietTactic
import Derived.BigQuiet
import Derived.Deep.RegionHeld3
import Derived.Deep.DeepCutAuto
import Derived.RegionTactic
/- The generator's takes with a change. -/
namespace Go.Proofs.YtkhegeobdcemkaaGreatDoor
set_option linter.unusedVariables false
open Go.RowKit Go.Sort

/-- The covers of takes lie in F or in blocks made since w, apart from the row g. -/
def InT (F : Nat → Prop) (w wx : World) (g : Nat) (l : List (Tk × Value)) : Prop := ∀ y ∈ l, Sli covR wx (fun q => F q ∨ (w.heap.size ≤ q ∧ q < wx.heap.size ∧ q ≠ g)) y.1.covers y.2
theorem InT.keep {F : Nat → Prop} {w wx wy : World} {g : Nat} {l : List (Tk × Value)} (h : InT F w wx g l) (hs : wx.heap.size ≤ wy.heap.size) (hk : ∀ b, (F b ∨ (w.heap.size ≤ b ∧ b < wx.heap.size ∧ b ≠ g)) → wy.heap[b]? = wx.heap[b]?) : InT F w wy g l := fun y hy =>
  ((h y hy).keep hk).more fun q hq => hq.imp id fun hq => ⟨hq.1, Nat.lt_of_lt_of_le hq.2.1 hs, hq.2.2⟩
theorem InT.turn {F : Nat → Prop} {w wx wy : World} {g sb : Nat} {l : List (Tk × Value)} (h : InT F w wx g l) (hg : wx.grownBy wy (some sb)) (hF : ∀ q, F q → q < w.heap.size ∧ q ≠ sb) (hw : w.heap.size ≤ wx.heap.size) (hsb : sb < w.heap.size) : InT F w wy g l :=
  h.keep hg.size fun b hb => hg.block b (by rcases hb with hb | hb; have := (hF b hb).1; omega; exact hb.2.1) (by rcases hb with hb | hb; have := (hF b hb).2; simp; omega; have := hb.1; simp; omega)
theorem InT.setg {F : Nat → Prop} {w wx : World} {g i : Nat} {u : Value} {l : List (Tk × Value)} (h : InT F w wx g l) (hF : ∀ q, F q → q < w.heap.size) (hg : w.heap.size ≤ g) : InT F w (wx.setCell ⟨g, i, none⟩ u) g l :=
  h.keep (by simp [World.setCell]) fun b hb => Below.heap_setCell wx _ _ b (by rcases hb with hb | hb; have := hF b hb; show b ≠ g; omega; exact hb.2.2)
theorem mem_modify' {α : Type} {l : List α} {f : α → α} {k : Nat} {y : α} (h : y ∈ l.modify k f) : y ∈ l ∨ ∃ x, l[k]? = some x ∧ y = f x := by
  obtain ⟨i, hi⟩ := List.mem_iff_getElem?.1 h
  rw [List.getElem?_modify] at hi
  cases hli : l[i]? with
  | none => rw [hli] at hi; simp at hi
  | some x =>
    rw [hli] at hi
    simp at hi
    by_cases e : k = i
    · rw [if_pos e] at hi; exact .inr ⟨x, by rw [e]; exact hli, hi.symm⟩
    · rw [if_neg e] at hi; exact .inl (hi ▸ List.mem_iff_getElem?.2 ⟨i, hli⟩)
/-- A change of the take at a place that leaves its covers. -/
theorem InT.mod {F : Nat → Prop} {w wx : World} {g j : Nat} {l : List (Tk × Value)} {f : Tk × Value → Tk × Value} (h : InT F w wx g l) (hf : ∀ x, (f x).1.covers = x.1.covers ∧ (f x).2 = x.2) : InT F w wx g (l.modify j f) := fun y hy => by
  rcases mem_modify' hy with hy | ⟨x, hx, rfl⟩
  · exact h y hy
  · rw [(hf x).1, (hf x).2]; exact h x (List.mem_iff_getElem?.2 ⟨j, hx⟩)

/-- Another list whose elements lie as the first's do. -/
theorem Own.recode {α : Type} {n : Nat} {enc : α → List Value} {hn : ∀ x, (enc x).length = n} {w : World} {base lo : Nat} {e : TypeId} {l l' : List α} {v : Value} (h : Own (Rep.flat n enc hn) w base lo e l v) (hl : l'.length = l.length) (he : ∀ (k : Nat) x, l'[k]? = some x → ∃ y, l[k]? = some y ∧ enc x = enc y) : Own (Rep.flat n enc hn) w base lo e l' v := by
  obtain ⟨xs, ho, hx⟩ := h
  refine ⟨xs, ?_, ⟨by rw [hl]; exact hx.1, fun k x hk => ?_⟩⟩
  · rw [hl]; exact ho
  · obtain ⟨y, hy, e⟩ := he k x hk
    have h2 : (xs.drop (k * n)).take n = enc y := hx.2 k y hy
    show (xs.drop (k * n)).take n = enc x
    rw [h2, e]
theorem GS.recode {α : Type} {n : Nat} {enc : α → List Value} {hn : ∀ x, (enc x).length = n} {w wx : World} {sb : Nat} {e : TypeId} {l l' : List α} {v : Value} {P : List (Nat × Array Value × TypeId)} {k : Int} (h : GS (Rep.flat n enc hn) e w sb l v P k wx) (hl : l'.length = l.length) (he : ∀ (k : Nat) x, l'[k]? = some x → ∃ y, l[k]? = some y ∧ enc x = enc y) : GS (Rep.flat n enc hn) e w sb l' v P k wx :=
  ⟨h.str, h.gr, h.own.recode hl he, h.lt, h.prv⟩
theorem GS.far {α : Type} {n : Nat} {enc : α → List Value} {hn : ∀ x, (enc x).length = n} {w wx : World} {sb : Nat} {e : TypeId} {l : List α} {v : Value} {k : Int} (h : GS (Rep.flat n enc hn) e w sb l v [] k wx) {b : Nat} (i : Nat) (u : Value) (hb : w.heap.size ≤ b) (hne : v.ownBlock ≠ some b) : GS (Rep.flat n enc hn) e w sb l v [] k (wx.setCell ⟨b, i, none⟩ u) :=
  ⟨h.str.setCell (by have := h.lt; show sb < b; omega) _, gSet h.gr hb _, h.own.fkeep (fun q e _ => Below.heap_setCell wx _ _ q (fun e2 => hne (by rw [e, e2]))), h.lt, fun p hp => by cases hp⟩
/-- The covers of the take at a place have changed. -/
theorem inT_cov {F : Nat → Prop} {w wx : World} {g j : Nat} {l lm : List (Tk × Value)} {cs : List Cov} (hne : ∀ i, i ≠ j → lm[i]? = l[i]?) (hF : ∀ y ∈ l, Sli covR wx F y.1.covers y.2) (hc : ∀ y, lm[j]? = some y → Sli covR wx (fun q => F q ∨ (w.heap.size ≤ q ∧ q < wx.heap.size ∧ q ≠ g)) cs y.2) : InT F w wx g (lm.modify j fun y => ({ y.1 with covers := cs }, y.2)) := fun y hy => by
  obtain ⟨i, hi⟩ := List.mem_iff_getElem?.1 hy
  rw [List.getElem?_modify] at hi
  cases hli : lm[i]? with
  | none => rw [hli] at hi; simp at hi
  | some x =>
    rw [hli] at hi
    simp at hi
    by_cases e : j = i
    · rw [if_pos e] at hi; subst hi; subst e; exact hc x hli
    · rw [if_neg e] at hi
      subst hi
      rw [hne i (fun h => e h.symm)] at hli
      exact (hF x (List.mem_iff_getElem?.2 ⟨i, hli⟩)).more fun q hq => .inl hq
/-- A change of one cover's cells. -/
def Cov.upd (c : Cov) (p i o : Int) : Cov := { c with para := p, tin := i, tout := o }

end Go.Proofs.YtkhegeobdcemkaaGreatDoor

