/- Texts packed: CutP. -/
import Derived.Test.YtkhegeobdcemkaaGreatDoorSc32
import Derived.Test.YtkhegeobdcemkaaGreatDoorSc27
import Derived.Test.YtkhegeobdcemkaaGreatDoorSc01
/- script.Cut walked. -/
namespace Go.Proofs.YtkhegeobdcemkaaGreatDoor
set_option linter.unusedVariables false
open Go.RowKit Go.Sort

/-- The scenes from f to t, the first with its own time of day. -/
def cutS (l : List Scene) (f t : Nat) : List Scene := ((l.drop f).take (t - f)).modify 0 fun s => { s with time := tmAt l f }
/-- A list that a call has made takes the place of none. -/
theorem BI.take {w wx wy : World} {l : List (Scene × Value)} {v : Value} {P : List (Nat × Array Value × TypeId)} (h : BI w [] (.slice none 0 0) P wx) (hc : BI wx l v [] wy) : BI w l v P wy :=
  ⟨h.bo.take hc.bo.bel hc.bo.own (hc.bo.own.less h.bo.size), fun y hy => (hc.inn y hy).more fun q hq => ⟨Nat.le_trans h.bo.size hq.1, hq.2.1, fun p hp => by have := h.bo.plt hp; have := hq.1; omega, hq.2.2.2⟩⟩
/-- A list of some of its elements, made by a call, takes its place. -/
theorem BI.put {w wx wy : World} {l l' : List (Scene × Value)} {v v' : Value} {P : List (Nat × Array Value × TypeId)} (h : BI w l v P wx) (hb : Below wx.heap.size wx wy) (hown : Own svR wy wx.heap.size wx.heap.size 71 l' v') (hs : ∀ y ∈ l', y ∈ l) : BI w l' v' P wy :=
  ⟨⟨h.bo.bel.trans (hb.mono h.bo.size), hown.less h.bo.size, fun p hp => ⟨(hb.block _ (h.bo.plt hp)).trans (h.bo.prv p hp).1, (h.bo.prv p hp).2.1, fun e => by have := hown.block _ e; have := h.bo.plt hp; omega⟩⟩,
    fun y hy => ((h.inn y (hs y hy)).below hb (fun q hq => hq.2.1)).more fun q hq => ⟨hq.1, Nat.lt_of_lt_of_le hq.2.1 hb.size, hq.2.2.1, fun e => by have := hown.block _ e; have := hq.2.1; omega⟩⟩
theorem cutS_mod (l : List Scene) (f t : Nat) (g : Scene → Scene) (hg : ∀ (h : f < l.length), g l[f] = { l[f] with time := tmAt l f }) : ((l.modify f g).take t).drop f = cutS l f t := by
  unfold cutS
  apply List.ext_getElem?
  intro i
  rw [List.getElem?_drop, List.getElem?_take, List.getElem?_modify, List.getElem?_modify, List.getElem?_take, List.getElem?_drop]
  by_cases hi : f + i < t
  · rw [if_pos hi, if_pos (by omega)]
    by_cases h0 : i = 0
    · subst h0
      simp only [Nat.add_zero]
      cases h : l[f]? with
      | none => rfl
      | some x =>
        obtain ⟨hf, rfl⟩ := List.getElem?_eq_some_iff.1 h
        simp [hg hf]
    · simp [show ¬ f = f + i from by omega, show ¬ 0 = i from fun e => h0 e.symm, h0]
  · rw [if_neg hi, if_neg (by omega)]
    rfl
theorem cutS_now (l : List Scene) (f t : Nat) (h : ∀ (h : f < l.length), f < t → l[f].time = tmAt l f) (hle : f ≤ t) : (l.take t).drop f = cutS l f t := by
  by_cases hft : f < t
  · have := cutS_mod l f t id (fun hf => by
      show l[f] = _
      rw [← h hf hft])
    rw [← this]
    congr 2
    apply List.ext_getElem?
    intro i
    rw [List.getElem?_modify]
    cases l[i]? <;> simp
  · unfold cutS
    rw [show t - f = 0 by omega, List.take_zero, List.drop_eq_nil_of_le (by rw [List.length_take]; omega)]
    rfl
/-- What a call of Cut gives. -/
def CtP (x : Script) (from_ to_ : Int) (w : World) (e : Ending) (w' : World) : Prop := ∃ (t : ByteArray) (l : List (Scene × Value)) (v : Value) (E : Int), e = .returned (.tuple #[.agg (xCs t v), .int .i64 E]) ∧ BI w l v [] w' ∧
  ((¬ chkE x = 0 ∧ E = chkE x) ∨ (chkE x = 0 ∧ (from_ < 0 ∨ to_ < from_ ∨ (x.scenes.length : Int) < to_) ∧ E = 1) ∨ (chkE x = 0 ∧ 0 ≤ from_ ∧ from_ ≤ to_ ∧ to_ ≤ x.scenes.length ∧ E = 0 ∧ t = x.title ∧ l.map (·.1) = cutS x.scenes from_.toNat to_.toNat))
end Go.Proofs.YtkhegeobdcemkaaGreatDoor

