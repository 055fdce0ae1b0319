/- Texts packed: NextA. -/
import Derived.Test.YtlmfpaincgkpeaaGreatDoorRows
import Derived.Test.YtlmfpaincgkpeaaGreatDoorSc02
import Derived.Test.YtlmfpaincgkpeaaGreatDoorSc01
import Derived.Test.YtlmfpaincgkpeaaGreatDoorSc06
import Derived.Lib.LazyBuf
import Derived.RegionTactic
/- The setup that comes after another one: the program's, walked. -/
namespace Go.Proofs.YtlmfpaincgkpeaaGreatDoor
set_option linter.unusedVariables false
open Go.RowKit

theorem strNums (l : List UInt8) : strOfNums (l.map fun b => (b.toNat : Int)) = ⟨l.toArray⟩ := by
  unfold strOfNums
  rw [List.map_map]
  congr 2
  rw [show ((fun n : Int => UInt8.ofNat n.toNat) ∘ fun b : UInt8 => (b.toNat : Int)) = id from funext fun b => by simp]
  exact List.map_id _
/-- Bytes of one's own, each known: since w only what is new has changed, and block B holds these bytes. -/
def ByX (w wx : World) (B : Nat) (l : List UInt8) : Prop :=
  w.heap.size ≤ B ∧ Below w.heap.size w wx ∧ ∀ j (u : UInt8), l[j]? = some u → wx.cell? ⟨B, j, none⟩ = some (.int .u8 u.toNat) ∧ wx.frozen? ⟨B, j, none⟩ = false
theorem ByX.start (w wx : World) (e : TypeId) (s : ByteArray) (hb : Below w.heap.size w wx) : ByX w (Lib.bytesWorld wx e s) wx.heap.size s.data.toList := by
  refine ⟨hb.size, ⟨hb.os, hb.tape, hb.output, by rw [Lib.bytesWorld_size]; have := hb.size; omega, fun i hi => (Lib.bytesWorld_at_old wx e s i (by have := hb.size; omega)).trans (hb.block i hi)⟩, fun j u hj => ?_⟩
  have hjs : j < s.size := by
    have := (List.getElem?_eq_some_iff.1 hj).1
    simpa using this
  refine ⟨?_, frozen_of (Lib.bytesWorld_at_new wx e s) j ?_⟩
  · rw [Lib.bytesWorld_cell wx e s j hjs, List.getD_eq_getElem?_getD, hj]
    rfl
  · unfold Lib.bytesCells
    simp
    have : s.data.size = s.size := rfl
    omega
section
variable {w wx wy : World} {B : Nat} {l : List UInt8}
theorem ByX.set (h : ByX w wx B l) (k : Nat) (hk : k < l.length) (c : UInt8) : ByX w (wx.setCell ⟨B, k, none⟩ (.int .u8 c.toNat)) B (l.set k c) := by
  obtain ⟨hB, hb, hc⟩ := h
  refine ⟨hB, ⟨hb.os, hb.tape, hb.output, by simpa [World.setCell] using hb.size, fun i hi => (Below.heap_setCell wx _ _ i (by show i ≠ B; omega)).trans (hb.block i hi)⟩, fun j y hj => ?_⟩
  rw [List.getElem?_set] at hj
  by_cases e : k = j
  · subst e
    rw [if_pos rfl, if_pos hk] at hj
    injection hj with hj
    subst hj
    have := hc k _ (List.getElem?_eq_getElem hk)
    exact ⟨World.cell?_setCell_same wx _ _ this.1, (frozen_setCell wx _ _ _).trans this.2⟩
  · rw [if_neg e] at hj
    have := hc j y hj
    exact ⟨(World.cell?_setCell_other wx _ _ _ (fun h => e (by injection h))).trans this.1, (frozen_setCell wx _ _ _).trans this.2⟩
theorem ByX.str (h : ByX w wx B l) (P : Program) (src dst e : TypeId) (n c : Nat) (hn : l.length = n) (hs : P.underlying src = some (.slice e)) (he : P.underlying e = some (.int .u8)) (hd : P.underlying dst = some .string) :
    (convert src dst (.slice (some ⟨B, 0, none⟩) n c)).run P wx = .ok (.string ⟨l.toArray⟩) wx := by
  subst hn
  rw [← strNums l]
  refine run_convert_bytes_arg wx src e hs he B 0 l.length c _ (by simp) (fun i hi => ?_) dst hd
  have := (h.2.2 i _ (List.getElem?_eq_getElem hi)).1
  rw [Nat.zero_add, this, List.getD_eq_getElem?_getD, List.getElem?_map, List.getElem?_eq_getElem hi]
  rfl
end

end Go.Proofs.YtlmfpaincgkpeaaGreatDoor

