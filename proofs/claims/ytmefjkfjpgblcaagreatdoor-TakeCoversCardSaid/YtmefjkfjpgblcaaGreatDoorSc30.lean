/- Texts packed: TkY. -/
import Derived.Test.YtmefjkfjpgblcaaGreatDoorSc08
import Derived.Test.YtmefjkfjpgblcaaGreatDoorSc29
/- Takes of the generator, wherever they lie but in the stream's block. -/
namespace Go.Proofs.YtmefjkfjpgblcaaGreatDoor
set_option linter.unusedVariables false
open Go.RowKit Go.Sort

theorem TkW.go {w w' : World} {F G : Nat → Prop} {tl : List (Tk × Value)} {v : Value} (h : TkW w F tl v) (hk : ∀ b, F b → w'.heap[b]? = w.heap[b]?) (hG : ∀ b, F b → G b) (hl : ∀ b, G b → b < w'.heap.size) : TkW w' G tl v :=
  ⟨(h.sli.keep hk).more hG, fun y hy => ((h.cov y hy).keep hk).more hG, hl, h.len, h.bd⟩
/-- Takes of the generator, wherever they lie but in the stream's block. -/
structure TkY (B : Int) (sb : Nat) (w : World) (tl : List (Tk × Value)) (v : Value) : Prop where
  tk : TkW w (fun q => q < w.heap.size ∧ q ≠ sb) tl v
  bd : ∀ y ∈ tl, tkB B y.1
  len : tl.length ≤ 25
theorem TkY.turn {B : Int} {sb : Nat} {w w' : World} {tl : List (Tk × Value)} {v : Value} (h : TkY B sb w tl v) (hg : w.grownBy w' (some sb)) : TkY B sb w' tl v :=
  ⟨h.tk.go (fun q hq => hg.block q hq.1 (by simp; exact hq.2)) (fun q hq => ⟨Nat.lt_of_lt_of_le hq.1 hg.size, hq.2⟩) (fun q hq => hq.1), h.bd, h.len⟩
theorem TkY.below {B : Int} {sb : Nat} {w w' : World} {tl : List (Tk × Value)} {v : Value} (h : TkY B sb w tl v) (hb : Below w.heap.size w w') : TkY B sb w' tl v :=
  ⟨h.tk.go (fun q hq => hb.block q hq.1) (fun q hq => ⟨Nat.lt_of_lt_of_le hq.1 hb.size, hq.2⟩) (fun q hq => hq.1), h.bd, h.len⟩
theorem TkY.mk' {B : Int} {sb : Nat} {w w0 : World} {tl : List (Tk × Value)} {v : Value} {F : Nat → Prop} {e : TypeId} (ho : Own tvR w w0.heap.size w0.heap.size e tl v) (hsb : sb < w0.heap.size) (hc : ∀ y ∈ tl, Sli covR w F y.1.covers y.2) (hF : ∀ q, F q → q < w.heap.size ∧ q ≠ sb) (hb : ∀ y ∈ tl, tkB B y.1) (hl : tl.length ≤ 25) : TkY B sb w tl v :=
  ⟨⟨ho.sli (fun q h1 h2 => ⟨h2, by omega⟩) (fun g hg => ⟨(ho.block g hg).2, by have := (ho.block g hg).1; omega⟩), fun y hy => (hc y hy).more hF, fun b hq => hq.1, by omega, fun y hy => by
    have h := hb y hy
    unfold tkB at h
    exact ⟨by omega, by omega, by omega, by omega, by omega⟩⟩, hb, hl⟩
theorem TkY.nil_ {B : Int} {sb : Nat} {w : World} : TkY B sb w [] (.slice none 0 0) :=
  ⟨⟨Sli.nil_, fun y hy => (by cases hy), fun b hq => hq.1, by simp, fun y hy => (by cases hy)⟩, fun y hy => (by cases hy), by simp⟩
end Go.Proofs.YtmefjkfjpgblcaaGreatDoor

