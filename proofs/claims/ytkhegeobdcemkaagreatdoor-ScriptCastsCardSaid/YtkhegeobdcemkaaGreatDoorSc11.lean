/- Texts packed: NextA. -/
import Derived.Test.YtkhegeobdcemkaaGreatDoorRows
import Derived.Test.YtkhegeobdcemkaaGreatDoorSc03
import Derived.Test.YtkhegeobdcemkaaGreatDoorSc01
import Derived.Test.YtkhegeobdcemkaaGreatDoorSc10
import Derived.Lib.LazyBuf
import Derived.RegionTactic
/- The setup that comes after another one: the program's, walked. -/
namespace Go.Proofs.YtkhegeobdcemkaaGreatDoor
set_option linter.unusedVariables false
open Go.RowKit

theorem strNums (l : List UInt8) : strOfNums (l.map fun b => (b.toNat : Int)) = ⟨l.toArray⟩ := by
  unfold strOfNums
  rw [List.map_map]
  congr 2
  rw [show ((fun n : Int => UInt8.ofNat n.toNat) ∘ fun b : UInt8 => (b.toNat : Int)) = id from funext fun b => by simp]
  exact List.map_id _
/-- Bytes of one's own, each known: since w only what is new has changed, and block B holds these bytes. -/
def ByX (w wx : World) (B : Nat) (l : List UInt8) : Prop :=
  w.heap.size ≤ B ∧ Below w.heap.size w wx ∧ ∀ j (u : UInt8), l[j]? = some u → wx.cell? ⟨B, j, none⟩ = some (.int .u8 u.toNat) ∧ wx.frozen? ⟨B, j, none⟩ = false
theorem ByX.start (w wx : World) (e : TypeId) (s : ByteArray) (hb : Below w.heap.size w wx) : ByX w (Lib.bytesWorld wx e s) wx.heap.size s.data.toList := by
  refine ⟨hb.size, ⟨hb.os, hb.tape, hb.output, by rw [Lib.bytesWorld_size]; have := hb.size; omega, fun i hi => (Lib.bytesWorld_at_old wx e s i (by have := hb.size; omega)).trans (hb.block i hi)⟩, fun j u hj => ?_⟩
  have hjs : j < s.size := by
    have := (List.getElem?_eq_some_iff.1 hj).1
    simpa using this
  refine ⟨?_, frozen_of (Lib.bytesWorld_at_new wx e s) j ?_⟩
  · rw [Lib.bytesWorld_cell wx e s j hjs, List.getD_eq_getElem?_getD, hj]
    rfl
  · unfold Lib.bytesCells
    simp
    have : s.data.size = s.size := rfl
    omega
section
variable {w wx wy : World} {B : Nat} {l : List UInt8}
theorem ByX.set (h : ByX w wx B l) (k : Nat) (hk : k < l.length) (c : UInt8) : ByX w (wx.setCell ⟨B, k, none⟩ (.int .u8 c.toNat)) B (l.set k c) := by
  obtain ⟨hB, hb, hc⟩ := h
  refine ⟨hB, ⟨hb.os, hb.tape, hb.output, by simpa [World.setCell] using hb.size, fun i hi => (Below.heap_setCell wx _ _ i (by show i ≠ B; omega)).trans (hb.block i hi)⟩, fun j y hj => ?_⟩
  rw [List.getElem?_set] at hj
  by_cases e : k = j
  · subst e
    rw [if_pos rfl, if_pos hk] at hj
    injection hj with hj
    subst hj
    have := hc k _ (List.getElem?_eq_getElem hk)
    exact ⟨World.cell?_setCell_same wx _ _ this.1, (frozen_setCell wx _ _ _).trans this.2⟩
  · rw [if_neg e] at hj
    have := hc j y hj
    exact ⟨(World.cell?_setCell_other wx _ _ _ (fun h => e (by injection h))).trans this.1, (frozen_setCell wx _ _ _).trans this.2⟩
theorem ByX.str (h : ByX w wx B l) (P : Program) (src dst e : TypeId) (n c : Nat) (hn : l.length = n) (hs : P.underlying src = some (.slice e)) (he : P.underlying e = some (.int .u8)) (hd : P.underlying dst = some .string) :
    (convert src dst (.slice (some ⟨B, 0, none⟩) n c)).run P wx = .ok (.string ⟨l.toArray⟩) wx := by
  subst hn
  rw [← strNums l]
  refine run_convert_bytes_arg wx src e hs he B 0 l.length c _ (by simp) (fun i hi => ?_) dst hd
  have := (h.2.2 i _ (List.getElem?_eq_getElem hi)).1
  rw [Nat.zero_add, this, List.getD_eq_getElem?_getD, List.getElem?_map, List.getElem?_eq_getElem hi]
  rfl
end

/-- The setup after another one, as the program's loop makes it: the first k bytes are still to be looked at. -/
def aft : Nat → List UInt8 → ByteArray × Bool
  | 0, bs => (⟨(65 :: bs).toArray⟩, decide (bs.length < 2))
  | i + 1, bs => if ltI (bs.getD i 0) + 1 < 24 then (⟨(bs.set i (ltAt (ltI (bs.getD i 0) + 1))).toArray⟩, true) else aft i (bs.set i 65)
theorem aft_one : ∀ i : Fin 24, aft 1 [ltAt i.val] = (allSetups.getD (2 + i.val) ⟨#[]⟩, true) := by decide +kernel
theorem aft_two : ∀ i j : Fin 24, aft 2 [ltAt i.val, ltAt j.val] = if 25 + 24 * i.val + j.val + 1 < 601 then (allSetups.getD (25 + 24 * i.val + j.val + 1) ⟨#[]⟩, true) else (⟨#[65, 65, 65]⟩, false) := by decide +kernel
theorem aft_setup {s : ByteArray} (h : setupB s = true) : aft s.size s.data.toList = if suK s + 1 < 601 then (allSetups.getD (suK s + 1) ⟨#[]⟩, true) else (⟨#[65, 65, 65]⟩, false) := by
  rcases setup_form h with rfl | ⟨c, hc, rfl⟩ | ⟨c, d, hc, hd, rfl⟩
  · decide +kernel
  · have h1 := aft_one ⟨ltI c, ltI_lt hc⟩
    dsimp only at h1
    rw [ltAt_ltI hc] at h1
    have h2 := ltI_lt hc
    have hk : suK ⟨#[c]⟩ = 1 + ltI c := rfl
    rw [hk, if_pos (by omega), show 1 + ltI c + 1 = 2 + ltI c by omega]
    exact h1
  · have h1 := aft_two ⟨ltI c, ltI_lt hc⟩ ⟨ltI d, ltI_lt hd⟩
    dsimp only at h1
    rw [ltAt_ltI hc, ltAt_ltI hd] at h1
    exact h1
theorem let_index {c : UInt8} (h : setC c = true) : Lib.indexByte letL c = (ltI c : Int) := by
  have hh : ∀ c, (!setC c || decide (Lib.indexByte letL c = (ltI c : Int))) = true := u8_eq (q := fun _ => true) (by decide +kernel)
  have := hh c
  rw [h] at this
  simpa using this
theorem letAt : ∀ i : Fin 24, letL[i.val]? = some (ltAt i.val) ∧ setC (ltAt i.val) = true := by decide +kernel
theorem let_tab : ∀ v : Fin 24, ((ByteArray.mk #[65, 66, 67, 68, 69, 70, 71, 72, 74, 75, 76, 77, 78, 80, 81, 82, 83, 84, 85, 86, 87, 88, 89, 90])[v.val]'(by have := v.isLt; show v.val < 24; omega)).toNat = (ltAt v.val).toNat := by decide +kernel
theorem let_run {P : Program} {T : TypeId} (hT : P.underlying T = some .string) (u : Nat) (hu : u + 1 < 24) (W : World) : (Instr.index T (.string ⟨#[65, 66, 67, 68, 69, 70, 71, 72, 74, 75, 76, 77, 78, 80, 81, 82, 83, 84, 85, 86, 87, 88, 89, 90]⟩) (.int .i64 ((u : Int) + 1))).run P W = .ok (.int .u8 ((ltAt (u + 1)).toNat : Int)) W := by
  rw [run_index_string W T _ _ _ hT, dif_pos ⟨by omega, by show (u : Int) + 1 < 24; omega⟩]
  have h2 := let_tab ⟨u + 1, hu⟩
  simp only [show ((u : Int) + 1).toNat = u + 1 by omega]
  rw [h2]
theorem setup_setC {s : ByteArray} (h : setupB s = true) : s.size ≤ 2 ∧ ∀ c ∈ s.data.toList, setC c = true := by
  simp only [setupB, Bool.and_eq_true, decide_eq_true_eq, allB, List.all_eq_true] at h
  exact ⟨h.2, h.1⟩
abbrev letS : ByteArray := ⟨#[65, 66, 67, 68, 69, 70, 71, 72, 74, 75, 76, 77, 78, 80, 81, 82, 83, 84, 85, 86, 87, 88, 89, 90]⟩

theorem ret_sb {a a' : ByteArray} {b b' : Bool} (h : a = a') (g : b = b') : Ending.returned (.tuple #[.string a, .bool b]) = .returned (.tuple #[.string a', .bool b']) := by rw [h, g]
end Go.Proofs.YtkhegeobdcemkaaGreatDoor

