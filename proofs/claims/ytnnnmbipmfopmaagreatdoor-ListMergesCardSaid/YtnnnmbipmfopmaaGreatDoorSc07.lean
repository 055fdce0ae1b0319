/- Texts packed: GrowT, WdW. -/
import Derived.Test.YtnnnmbipmfopmaaGreatDoorSc01
import Derived.Test.YtnnnmbipmfopmaaGreatDoorSc06
import Derived.Test.YtnnnmbipmfopmaaGreatDoorRows
import Derived.Test.YtnnnmbipmfopmaaGreatDoorSc02
import Derived.Test.YtnnnmbipmfopmaaGreatDoorSc03
import Derived.Deep.DeepCutAuto
/- Two flat lists of one's own under way, one of which may begin anew in its row. No program in sight. -/
namespace Go.Proofs.YtnnnmbipmfopmaaGreatDoor
set_option linter.unusedVariables false
open Go.RowKit

structure B2 {α β : Type} (R : Rep α) (RI : Rep β) (e eI : TypeId) (w : World) (l : List α) (v : Value) (m : List β) (u : Value) (wx : World) : Prop where
  bel : Below w.heap.size w wx
  o1 : Own R wx w.heap.size w.heap.size e l v
  o2 : Own RI wx w.heap.size w.heap.size eI m u
  dis : Dis v u
section
variable {α β : Type} {n k : Nat} {enc : α → List Value} {hn : ∀ x, (enc x).length = n} {encI : β → List Value} {hk : ∀ x, (encI x).length = k} {e eI : TypeId} {w wx wy : World} {l l' : List α} {v v' : Value} {m m' : List β} {u u' : Value}
theorem B2.start (w : World) : B2 (Rep.flat n enc hn) (Rep.flat k encI hk) e eI w [] (.slice none 0 0) [] (.slice none 0 0) w := ⟨Below.refl _ _, Own.nil_, Own.nil_, Dis.nil_⟩
theorem B2.size (h : B2 (Rep.flat n enc hn) (Rep.flat k encI hk) e eI w l v m u wx) : w.heap.size ≤ wx.heap.size := h.bel.size
theorem B2.below (h : B2 (Rep.flat n enc hn) (Rep.flat k encI hk) e eI w l v m u wx) (hb : Below wx.heap.size wx wy) : B2 (Rep.flat n enc hn) (Rep.flat k encI hk) e eI w l v m u wy :=
  ⟨h.bel.trans (hb.mono h.size), h.o1.below hb, h.o2.below hb, h.dis⟩
theorem B2.alloc (h : B2 (Rep.flat n enc hn) (Rep.flat k encI hk) e eI w l v m u wx) (o : Obj) : B2 (Rep.flat n enc hn) (Rep.flat k encI hk) e eI w l v m u (wx.alloc o) := h.below ((Below.refl _ wx).alloc (Nat.le_refl _) o)
theorem B2.drew (h : B2 (Rep.flat n enc hn) (Rep.flat k encI hk) e eI w l v m u wx) : B2 (Rep.flat n enc hn) (Rep.flat k encI hk) e eI w l v m u wx.drew := ⟨⟨h.bel.os, h.bel.tape, h.bel.output, h.bel.size, h.bel.block⟩, h.o1.drew, h.o2.drew, h.dis⟩
/-- The first list has grown. -/
theorem B2.more1 {g : Nat} (h : B2 (Rep.flat n enc hn) (Rep.flat k encI hk) e eI w l v m u wx) (hown : Own (Rep.flat n enc hn) wy w.heap.size w.heap.size e l' v') (hg : wx.grownBy wy v.ownBlock) (hv : v'.ownBlock = some g) (hat : v.ownBlock = some g ∨ g = wx.heap.size) :
    B2 (Rep.flat n enc hn) (Rep.flat k encI hk) e eI w l' v' m u wy := by
  refine ⟨h.bel.grown hg h.size (fun q hq => (h.o1.block q hq).1), hown, h.o2.keepF (fun q hq => hg.block q (h.o2.block q hq).2 (fun e => h.dis q e.symm hq)) hg.size, fun q hq hq2 => ?_⟩
  rw [hv] at hq
  injection hq with hq
  subst hq
  rcases hat with hat | hat
  · exact h.dis g hat hq2
  · have := (h.o2.block g hq2).2; omega
theorem B2.more2 {g : Nat} (h : B2 (Rep.flat n enc hn) (Rep.flat k encI hk) e eI w l v m u wx) (hown : Own (Rep.flat k encI hk) wy w.heap.size w.heap.size eI m' u') (hg : wx.grownBy wy u.ownBlock) (hv : u'.ownBlock = some g) (hat : u.ownBlock = some g ∨ g = wx.heap.size) :
    B2 (Rep.flat n enc hn) (Rep.flat k encI hk) e eI w l v m' u' wy := by
  refine ⟨h.bel.grown hg h.size (fun q hq => (h.o2.block q hq).1), h.o1.keepF (fun q hq => hg.block q (h.o1.block q hq).2 (fun e => h.dis q hq e.symm)) hg.size, hown, fun q hq hq2 => ?_⟩
  rw [hv] at hq2
  injection hq2 with hq2
  subst hq2
  rcases hat with hat | hat
  · exact h.dis g hq hat
  · have := (h.o1.block g hq).2; omega
/-- An empty row of one's own for the second list. -/
theorem B2.made {c : Nat} (h : B2 (Rep.flat n enc hn) (Rep.flat k encI hk) e eI w l v m u wx) (cur : Array Value) (hm : c ≤ maxLen) (hs : cur.size = c * k) :
    B2 (Rep.flat n enc hn) (Rep.flat k encI hk) e eI w l v [] (.slice (some ⟨wx.heap.size, 0, none⟩) 0 c) (wx.alloc (.cells cur eI)) :=
  ⟨(h.alloc (.cells cur eI)).bel, h.o1.alloc _, ⟨[], wx.ownsRow_made cur c h.size hm hs, Lay.nil_⟩, fun q hq hq2 => by
    injection hq2 with hq2
    subst hq2
    exact absurd (show wx.heap.size < wx.heap.size from (h.o1.block _ hq).2) (Nat.lt_irrefl _)⟩
end
end Go.Proofs.YtnnnmbipmfopmaaGreatDoor

/- script.Words, walked. -/
namespace Go.Proofs.YtnnnmbipmfopmaaGreatDoor
set_option linter.unusedVariables false
open Go.RowKit

end Go.Proofs.YtnnnmbipmfopmaaGreatDoor

