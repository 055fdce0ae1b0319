/- A law's arguments, opened: a slice of ints, a string, a slice of strings. No program in sight. -/
import Derived.Test.YtnjbbkocobegiaaDoorMem
import Derived.ProofKit
import Derived.OpenShut
import Derived.SizedLaws
import Derived.SliceStrings
namespace Go.Proofs.YtnjbbkocobegiaaDoor
set_option linter.unusedVariables false
open Go.ChangeShapes Go.WideShapes Go.ChangeAt Go.RowKit

section
variable {H : Type} {enc : TypeId × Value → H} {P : Program} {W : World}
theorem argInts {t e : TypeId} {a : Option Addr} {len cap : Nat} {d : DataW H} {p : List MemPlace} {ts : List TypeId} {ds : List (DataW H)} {j : Nat} (ht : P.underlying t = some (.slice e)) (he : P.underlying e = some (.int .i64)) (hc : P.cellsOf e = 1) (hb : P.bytesOf e = 8)
    (h : DataW.Trod enc P W 0 (fun _ => true) true t (.slice a len cap) d p) (hlt : ∀ x ∈ p, x.block < W.heap.size) (hw : (DataW.weightsEach P ts ds).all (· ≤ reachBytes) = true) (hj : ts[j]? = some t) (hd : ds[j]? = some d) :
    ∃ l : List Int, l.length = len ∧ Rs W 0 W.heap.size 1 intc a l ∧ l.length ≤ 17592186044416 ∧ ∀ x ∈ l, okI x := by
  obtain ⟨fuel, hf⟩ := h
  rcases open_ints ht he hc hf with ⟨hcs, _⟩ | ⟨x, l, c, zs, hcs, _, hl, hm, hz, hx, hcell, hwz⟩
  · simp [Value.cells] at hcs
    obtain ⟨rfl, rfl, rfl⟩ := hcs
    exact ⟨[], rfl, Rs.nil_, by simp, by simp⟩
  · simp [Value.cells] at hcs
    obtain ⟨rfl, rfl, rfl⟩ := hcs
    simp only [if_true] at hz
    simp only [Prod.mk.injEq] at hx
    obtain ⟨rfl, rfl⟩ := hx
    have hs := sized_slice hw hj hd ht
    rw [hb] at hs
    have hs2 : zs.length * 8 ≤ reachBytes := by
      have e1 : (lits (H := H) IntKind.i64 (zs.take len)).length + (lits (H := H) IntKind.i64 (zs.drop len)).length = zs.length := by simp [lits]; omega
      rw [e1] at hs; exact hs
    have hr := reachBytes_lt
    have hlen : (zs.take len).length = len := by simp; omega
    refine ⟨zs.take len, hlen, ?_, by omega, fun x hx => ?_⟩
    · intro hn
      obtain ⟨b, off, rfl, hcc⟩ := ints_at hcell (by simp at hn; omega)
      refine ⟨b, off, rfl, Nat.zero_le _, ?_, fun k y hy i u hu => ?_⟩
      · exact hlt (.cell b off) (by
          unfold MemPlace.row
          simp at hn ⊢
          omega)
      · cases i with
        | succ i => simp [intc] at hu
        | zero =>
          simp [intc] at hu
          subst hu
          have hk : k < zs.length ∧ zs[k]? = some y := by
            rw [List.getElem?_take] at hy
            split at hy
            · exact ⟨(List.getElem?_eq_some_iff.1 hy).1, hy⟩
            · cases hy
          have := hcc k hk.1
          rw [List.getD_eq_getElem?_getD, hk.2] at this
          simpa using this
    · have := hwz x (List.mem_of_mem_take hx)
      have hb := bounds_i64 this
      exact ⟨by omega, by omega⟩
theorem argString {ts : List TypeId} {ds : List (DataW H)} {j : Nat} {t : TypeId} {s : ByteArray} (hw : (DataW.weightsEach P ts ds).all (· ≤ reachBytes) = true) (hj : ts[j]? = some t) (hd : ds[j]? = some (.lit (.string s.data.toList))) : s.size ≤ 140737488355328 := by
  have hs := sized_string hw hj hd
  have hr := reachBytes_lt
  have : s.size = s.data.toList.length := by simp
  omega
end
end Go.Proofs.YtnjbbkocobegiaaDoor
