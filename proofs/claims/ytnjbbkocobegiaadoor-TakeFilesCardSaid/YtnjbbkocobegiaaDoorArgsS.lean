/- A law's argument that is a slice of strings, opened. No program in sight. -/
import Derived.Test.YtnjbbkocobegiaaDoorArgs
import Derived.Test.YtnjbbkocobegiaaDoorRep
namespace Go.Proofs.YtnjbbkocobegiaaDoor
set_option linter.unusedVariables false
open Go.ChangeShapes Go.WideShapes Go.ChangeAt Go.RowKit

section
variable {H : Type} {enc : TypeId × Value → H} {P : Program} {W : World}
theorem weightsAll_mem {e : TypeId} : ∀ {l : List (DataW H)} {d : DataW H} {n : Nat}, d ∈ l → n ∈ d.weights P e → n ∈ DataW.weightsAll P e l
  | x :: r, d, n, hd, hn => by
    simp only [DataW.weightsAll, List.mem_append]
    rcases List.mem_cons.1 hd with rfl | h
    · exact .inl hn
    · exact .inr (weightsAll_mem h hn)
theorem argStrs {t e : TypeId} {a : Option Addr} {len cap : Nat} {d : DataW H} {p : List MemPlace} {ts : List TypeId} {ds : List (DataW H)} {j : Nat} (ht : P.underlying t = some (.slice e)) (he : P.underlying e = some .string) (hc : P.cellsOf e = 1) (hb : P.bytesOf e = 16)
    (h : DataW.Trod enc P W 0 (fun _ => true) true t (.slice a len cap) d p) (hlt : ∀ x ∈ p, x.block < W.heap.size) (hw : (DataW.weightsEach P ts ds).all (· ≤ reachBytes) = true) (hj : ts[j]? = some t) (hd : ds[j]? = some d) :
    ∃ l : List ByteArray, l.length = len ∧ Sli strR W (fun b => b < W.heap.size) l (.slice a len cap) ∧ l.length ≤ 8796093021952 ∧ ∀ x ∈ l, x.size ≤ 140737488355328 := by
  obtain ⟨fuel, hf⟩ := h
  rcases open_strings ht he hc hf with ⟨hcs, _⟩ | ⟨x, l, c, zs, hcs, _, hl, hm, hz, hx, hcell, hwz⟩
  · simp [Value.cells] at hcs
    obtain ⟨rfl, rfl, rfl⟩ := hcs
    exact ⟨[], rfl, Sli.nil_, by simp, by simp⟩
  · simp [Value.cells] at hcs
    obtain ⟨rfl, rfl, rfl⟩ := hcs
    simp only [if_true] at hz
    simp only [Prod.mk.injEq] at hx
    obtain ⟨rfl, rfl⟩ := hx
    have hs := sized_slice hw hj hd ht
    rw [hb] at hs
    have hs2 : zs.length * 16 ≤ reachBytes := by
      have e1 : (strs (H := H) (zs.take len)).length + (strs (H := H) (zs.drop len)).length = zs.length := by simp [strs]; omega
      rw [e1] at hs; exact hs
    have hr : reachBytes = 140737488351232 := rfl
    have hlen : (zs.take len).length = len := by simp; omega
    refine ⟨zs.take len, hlen, ⟨_, _, by rw [hlen], by rw [hlen]; exact hl, by unfold maxLen at hm; omega, fun h0 => ?_⟩, by omega, fun s hs => ?_⟩
    · have hp : 0 < zs.length := by rw [hlen] at h0; omega
      obtain ⟨b, off, spot⟩ := x
      have hspot : spot = none := by simpa [Addr.add] using World.cell?_spot (hcell 0 hp)
      subst hspot
      have hcc : ∀ j, j < zs.length → W.cell? ⟨b, off + j, none⟩ = some (.string (zs.getD j ByteArray.empty)) := fun j hj => by
        have hadd : (⟨b, off, none⟩ : Addr).add j = ⟨b, off + j, none⟩ := by unfold Addr.add; split <;> simp_all
        rw [← hadd]; exact hcell j hj
      refine ⟨b, off, (zs.take len).map Value.string, rfl, ?_, ⟨by rw [List.length_map]; show _ = _ * 1; omega, fun k y hy => ?_⟩, fun j u hu => ?_⟩
      · exact hlt (.cell b off) (by
          unfold MemPlace.row
          simp
          omega)
      · show (((zs.take len).map Value.string).drop (k * 1)).take 1 = [.string y]
        rw [Nat.mul_one]
        have hk := (List.getElem?_eq_some_iff.1 hy).1
        have he := (List.getElem?_eq_some_iff.1 hy).2
        rw [List.drop_eq_getElem_cons (by rw [List.length_map]; exact hk), List.take_succ_cons, List.take_zero, List.getElem_map, he]
      · rw [List.getElem?_map] at hu
        obtain ⟨y, hy, rfl⟩ := Option.map_eq_some_iff.1 hu
        rw [List.getElem?_take] at hy
        split at hy
        · have hk := (List.getElem?_eq_some_iff.1 hy).1
          have := hcc j hk
          rw [List.getD_eq_getElem?_getD, hy] at this
          simpa using this
        · cases hy
    · have hm2 : (.lit (.string s.data.toList) : DataW H) ∈ strs (H := H) (zs.take len) := List.mem_map.2 ⟨s, hs, rfl⟩
      have h1 : s.data.toList.length ∈ DataW.weightsAll P e (strs (H := H) (zs.take len)) := weightsAll_mem hm2 (by simp [DataW.weights])
      have h2 := List.all_eq_true.1 hw _ (DataW.weights_mem_each hj hd s.data.toList.length (by
        unfold DataW.weights; rw [ht]; simp only [List.mem_cons, List.mem_append]; exact .inr (.inl h1)))
      have h3 : s.data.toList.length ≤ reachBytes := by simpa using h2
      have : s.size = s.data.toList.length := by simp
      omega
end
end Go.Proofs.YtnjbbkocobegiaaDoor
