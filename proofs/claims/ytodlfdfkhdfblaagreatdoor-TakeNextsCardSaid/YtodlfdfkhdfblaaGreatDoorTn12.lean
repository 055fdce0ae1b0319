/- Texts packed: NextA. -/
import Derived.Test.YtodlfdfkhdfblaaGreatDoorRows
import Derived.Test.YtodlfdfkhdfblaaGreatDoorTn02
import Derived.Test.YtodlfdfkhdfblaaGreatDoorTn01
import Derived.Test.YtodlfdfkhdfblaaGreatDoorTn06
import Derived.Test.YtodlfdfkhdfblaaGreatDoorTn11
import Derived.Lib.LazyBuf
import Derived.RegionTactic
/- The setup that comes after another one: the program's, walked. -/
namespace Go.Proofs.YtodlfdfkhdfblaaGreatDoor
set_option linter.unusedVariables false
open Go.RowKit

theorem strNums (l : List UInt8) : strOfNums (l.map fun b => (b.toNat : Int)) = ⟨l.toArray⟩ := by
  unfold strOfNums
  rw [List.map_map]
  congr 2
  rw [show ((fun n : Int => UInt8.ofNat n.toNat) ∘ fun b : UInt8 => (b.toNat : Int)) = id from funext fun b => by simp]
  exact List.map_id _
/-- Bytes of one's own, each known: since w only what is new has changed, and block B holds these bytes. -/
def ByX (w wx : World) (B : Nat) (l : List UInt8) : Prop :=
  w.heap.size ≤ B ∧ Below w.heap.size w wx ∧ ∀ j (u : UInt8), l[j]? = some u → wx.cell? ⟨B, j, none⟩ = some (.int .u8 u.toNat) ∧ wx.frozen? ⟨B, j, none⟩ = false
theorem ByX.start (w wx : World) (e : TypeId) (s : ByteArray) (hb : Below w.heap.size w wx) : ByX w (Lib.bytesWorld wx e s) wx.heap.size s.data.toList := by
  refine ⟨hb.size, ⟨hb.os, hb.tape, hb.output, by rw [Lib.bytesWorld_size]; have := hb.size; omega, fun i hi => (Lib.bytesWorld_at_old wx e s i (by have := hb.size; omega)).trans (hb.block i hi)⟩, fun j u hj => ?_⟩
  have hjs : j < s.size := by
    have := (List.getElem?_eq_some_iff.1 hj).1
    simpa using this
  refine ⟨?_, frozen_of (Lib.bytesWorld_at_new wx e s) j ?_⟩
  · rw [Lib.bytesWorld_cell wx e s j hjs, List.getD_eq_getElem?_getD, hj]
    rfl
  · unfold Lib.bytesCells
    simp
    have : s.data.size = s.size := rfl
    omega
section
variable {w wx wy : World} {B : Nat} {l : List UInt8}
theorem ByX.set (h : ByX w wx B l) (k : Nat) (hk : k < l.length) (c : UInt8) : ByX w (wx.setCell ⟨B, k, none⟩ (.int .u8 c.toNat)) B (l.set k c) := by
  obtain ⟨hB, hb, hc⟩ := h
  refine ⟨hB, ⟨hb.os, hb.tape, hb.output, by simpa [World.setCell] using hb.size, fun i hi => (Below.heap_setCell wx _ _ i (by show i ≠ B; omega)).trans (hb.block i hi)⟩, fun j y hj => ?_⟩
  rw [List.getElem?_set] at hj
  by_cases e : k = j
  · subst e
    rw [if_pos rfl, if_pos hk] at hj
    injection hj with hj
    subst hj
    have := hc k _ (List.getElem?_eq_getElem hk)
    exact ⟨World.cell?_setCell_same wx _ _ this.1, (frozen_setCell wx _ _ _).trans this.2⟩
  · rw [if_neg e] at hj
    have := hc j y hj
    exact ⟨(World.cell?_setCell_other wx _ _ _ (fun h => e (by injection h))).trans this.1, (frozen_setCell wx _ _ _).trans this.2⟩
theorem ByX.str (h : ByX w wx B l) (P : Program) (src dst e : TypeId) (n c : Nat) (hn : l.length = n) (hs : P.underlying src = some (.slice e)) (he : P.underlying e = some (.int .u8)) (hd : P.underlying dst = some .string) :
    (convert src dst (.slice (some ⟨B, 0, none⟩) n c)).run P wx = .ok (.string ⟨l.toArray⟩) wx := by
  subst hn
  rw [← strNums l]
  refine run_convert_bytes_arg wx src e hs he B 0 l.length c _ (by simp) (fun i hi => ?_) dst hd
  have := (h.2.2 i _ (List.getElem?_eq_getElem hi)).1
  rw [Nat.zero_add, this, List.getD_eq_getElem?_getD, List.getElem?_map, List.getElem?_eq_getElem hi]
  rfl
end

/-- The setup after another one, as the program's loop makes it: the first k bytes are still to be looked at. -/
def aft : Nat → List UInt8 → ByteArray × Bool
  | 0, bs => (⟨(65 :: bs).toArray⟩, decide (bs.length < 2))
  | i + 1, bs => if ltI (bs.getD i 0) + 1 < 24 then (⟨(bs.set i (ltAt (ltI (bs.getD i 0) + 1))).toArray⟩, true) else aft i (bs.set i 65)
theorem aft_one : ∀ i : Fin 24, aft 1 [ltAt i.val] = (allSetups.getD (2 + i.val) ⟨#[]⟩, true) := by decide +kernel
theorem aft_two : ∀ i j : Fin 24, aft 2 [ltAt i.val, ltAt j.val] = if 25 + 24 * i.val + j.val + 1 < 601 then (allSetups.getD (25 + 24 * i.val + j.val + 1) ⟨#[]⟩, true) else (⟨#[65, 65, 65]⟩, false) := by decide +kernel
theorem aft_setup {s : ByteArray} (h : setupB s = true) : aft s.size s.data.toList = if suK s + 1 < 601 then (allSetups.getD (suK s + 1) ⟨#[]⟩, true) else (⟨#[65, 65, 65]⟩, false) := by
  rcases setup_form h with rfl | ⟨c, hc, rfl⟩ | ⟨c, d, hc, hd, rfl⟩
  · decide +kernel
  · have h1 := aft_one ⟨ltI c, ltI_lt hc⟩
    dsimp only at h1
    rw [ltAt_ltI hc] at h1
    have h2 := ltI_lt hc
    have hk : suK ⟨#[c]⟩ = 1 + ltI c := rfl
    rw [hk, if_pos (by omega), show 1 + ltI c + 1 = 2 + ltI c by omega]
    exact h1
  · have h1 := aft_two ⟨ltI c, ltI_lt hc⟩ ⟨ltI d, ltI_lt hd⟩
    dsimp only at h1
    rw [ltAt_ltI hc, ltAt_ltI hd] at h1
    exact h1
theorem let_index {c : UInt8} (h : setC c = true) : Lib.indexByte letL c = (ltI c : Int) := by
  have hh : ∀ c, (!setC c || decide (Lib.indexByte letL c = (ltI c : Int))) = true := u8_eq (q := fun _ => true) (by decide +kernel)
  have := hh c
  rw [h] at this
  simpa using this
theorem letAt : ∀ i : Fin 24, letL[i.val]? = some (ltAt i.val) ∧ setC (ltAt i.val) = true := by decide +kernel
theorem let_tab : ∀ v : Fin 24, ((ByteArray.mk #[65, 66, 67, 68, 69, 70, 71, 72, 74, 75, 76, 77, 78, 80, 81, 82, 83, 84, 85, 86, 87, 88, 89, 90])[v.val]'(by have := v.isLt; show v.val < 24; omega)).toNat = (ltAt v.val).toNat := by decide +kernel
theorem let_run {P : Program} {T : TypeId} (hT : P.underlying T = some .string) (u : Nat) (hu : u + 1 < 24) (W : World) : (Instr.index T (.string ⟨#[65, 66, 67, 68, 69, 70, 71, 72, 74, 75, 76, 77, 78, 80, 81, 82, 83, 84, 85, 86, 87, 88, 89, 90]⟩) (.int .i64 ((u : Int) + 1))).run P W = .ok (.int .u8 ((ltAt (u + 1)).toNat : Int)) W := by
  rw [run_index_string W T _ _ _ hT, dif_pos ⟨by omega, by show (u : Int) + 1 < 24; omega⟩]
  have h2 := let_tab ⟨u + 1, hu⟩
  simp only [show ((u : Int) + 1).toNat = u + 1 by omega]
  rw [h2]
theorem setup_setC {s : ByteArray} (h : setupB s = true) : s.size ≤ 2 ∧ ∀ c ∈ s.data.toList, setC c = true := by
  simp only [setupB, Bool.and_eq_true, decide_eq_true_eq, allB, List.all_eq_true] at h
  exact ⟨h.2, h.1⟩
abbrev letS : ByteArray := ⟨#[65, 66, 67, 68, 69, 70, 71, 72, 74, 75, 76, 77, 78, 80, 81, 82, 83, 84, 85, 86, 87, 88, 89, 90]⟩

theorem ret_sb {a a' : ByteArray} {b b' : Bool} (h : a = a') (g : b = b') : Ending.returned (.tuple #[.string a, .bool b]) = .returned (.tuple #[.string a', .bool b']) := by rw [h, g]
set_option maxRecDepth 100000 in
set_option maxHeartbeats 4000000 in
theorem after_c (s : ByteArray) (w : World) (hs : setupB s = true) : Calls Tryz.prog 71 #[.string s] w fun e w' => e = .returned (.tuple #[.string (aft s.size s.data.toList).1, .bool (aft s.size s.data.toList).2]) ∧ Below w.heap.size w w' := by
  have qc : ∀ (w : World) (s : ByteArray), (convert 9 128 (.string s)).run Tryz.prog w = .ok (.slice (some ⟨w.heap.size, 0, none⟩) s.size (grownCap w s.size 0 5)) (Lib.bytesWorld w 5 s) := fun w s => Lib.run_convert_string_bytes w _ _ _ s Tryz.underlying9 Tryz.underlying128 Tryz.underlying5
  obtain ⟨h2, hC⟩ := setup_setC hs
  have HC := Lib.hid hC
  clear hs hC
  obtain ⟨n, hn⟩ : ∃ n, s.size = n := ⟨_, rfl⟩
  go_enter Tryz.func71, Tryz.ntmps71
  go_upto_region 2 with (fail)
  have H0 := Lib.hid (ByX.start w w 5 s (Below.refl _ _))
  generalize Lib.bytesWorld w 5 s = wB at *
  rw [hn] at h2
  generalize grownCap w n 0 5 = cp
  have HN := Lib.hid hn
  clear hn qc
  go_wp2
  go_loopw [5] (fun i wr => ∃ (k : Nat) (bs : List UInt8), k ≤ n ∧ i = .int .i64 ((k : Int) - 1) ∧ Hid (bs.length = n) ∧ Hid (ByX w wr w.heap.size bs) ∧ Hid (∀ c ∈ bs, setC c = true) ∧ Hid (aft s.size s.data.toList = aft k bs)) (fun i _ => (intOf i + 1).toNat)
  case atStart => exact ⟨n, s.data.toList, Nat.le_refl _, rfl, HN.out, H0.out, HC.out, by rw [HN.out]; rfl⟩
  case round =>
    obtain ⟨k, bs, hk, rfl, HL, HB, HS, HA⟩ := hrel
    by_cases hk0 : k = 0
    · subst hk0
      have hcv := HB.out.str Tryz.prog 128 9 5 n cp HL.out Tryz.underlying128 Tryz.underlying5 Tryz.underlying9
      have hzs : (⟨bs.toArray⟩ : ByteArray).size = n := by show bs.toArray.size = n; rw [List.size_toArray]; exact HL.out
      have H1 := Lib.hid (show (aft s.size s.data.toList).1 = ⟨#[65]⟩ ++ ⟨bs.toArray⟩ by
        rw [HA.out]
        show (⟨(65 :: bs).toArray⟩ : ByteArray) = _
        apply ByteArray.ext
        simp [ByteArray.data_append])
      have H2 := Lib.hid (show (aft s.size s.data.toList).2 = decide ((n : Int) < 2) by
        rw [HA.out]
        show decide (bs.length < 2) = _
        rw [HL.out, decide_eq_decide]; omega)
      generalize (⟨bs.toArray⟩ : ByteArray) = Z at *
      go_wp2
      go_ret2
      exact ⟨ret_sb H1.out.symm H2.out.symm, HB.out.2.1⟩
    · obtain ⟨j, rfl⟩ : ∃ j, k = j + 1 := ⟨k - 1, by omega⟩
      have ej : ((j + 1 : Nat) : Int) - 1 = (j : Int) := by omega
      rw [ej]
      have hjl : j < bs.length := by rw [HL.out]; omega
      obtain ⟨c0, f0⟩ := HB.out.2.2 j _ (List.getElem?_eq_getElem hjl)
      have hcs := HS.out _ (List.getElem_mem hjl)
      have hgd : bs.getD j 0 = bs[j] := by rw [List.getD_eq_getElem?_getD, List.getElem?_eq_getElem hjl]; rfl
      generalize bs[j] = c at *
      have hci : Lib.indexByte [65, 66, 67, 68, 69, 70, 71, 72, 74, 75, 76, 77, 78, 80, 81, 82, 83, 84, 85, 86, 87, 88, 89, 90] c = (ltI c : Int) := let_index hcs
      have hclt := ltI_lt hcs
      have HII := Lib.hid (idxB_c letS c)
      have hjn : j < n := by omega
      clear hcs
      by_cases hq : ltI c + 1 < 24
      · have HA2 := Lib.hid (show aft s.size s.data.toList = (⟨(bs.set j (ltAt (ltI c + 1))).toArray⟩, true) by
          rw [HA.out, aft, hgd, if_pos hq])
        have hix := let_run (P := Tryz.prog) Tryz.underlying9 (ltI c) hq
        have HB2 := Lib.hid (HB.out.set j hjl (ltAt (ltI c + 1)))
        have hcv := HB2.out.str Tryz.prog 128 9 5 n cp (by rw [List.length_set]; exact HL.out) Tryz.underlying128 Tryz.underlying5 Tryz.underlying9
        generalize ltI c = q at *
        generalize (⟨(bs.set j (ltAt (q + 1))).toArray⟩ : ByteArray) = Z at *
        generalize ltAt (q + 1) = cc at *
        clear hgd hjl HA
        go_wp2_with (first | (go_at_call 135; refine (HII.out _).mono ?_; rintro e w' ⟨rfl, rfl⟩) | fail)
        go_ret2
        exact ⟨by rw [HA2.out]; rfl, HB2.out.2.1⟩
      · have HA2 := Lib.hid (show aft s.size s.data.toList = aft j (bs.set j 65) by
          rw [HA.out, aft, hgd, if_neg hq])
        have hix : ∀ W, (Instr.index 9 (.string ⟨#[65, 66, 67, 68, 69, 70, 71, 72, 74, 75, 76, 77, 78, 80, 81, 82, 83, 84, 85, 86, 87, 88, 89, 90]⟩) (.int .i64 0)).run Tryz.prog W = .ok (.int .u8 65) W := fun W => by
          rw [run_index_string W _ _ _ _ Tryz.underlying9, dif_pos ⟨by decide, by decide⟩]
          rfl
        have HB2 := Lib.hid (HB.out.set j hjl 65)
        have HS2 := Lib.hid (show ∀ c ∈ bs.set j 65, setC c = true from fun c hc => by
          rcases List.mem_or_eq_of_mem_set hc with h | h
          · exact HS.out c h
          · subst h; rfl)
        have hq2 : ltI c = 23 := by omega
        rw [hq2] at hci
        clear hgd hjl HA hq hq2 hclt
        go_wp2_with (first | (go_at_call 135; refine (HII.out _).mono ?_; rintro e w' ⟨rfl, rfl⟩) | fail)
        go_roundw
        case rel => exact ⟨j, bs.set j 65, by omega, rfl, by rw [List.length_set]; exact HL.out, HB2.out, HS2.out, HA2.out⟩
        case measure => simp [intOf]
end Go.Proofs.YtodlfdfkhdfblaaGreatDoor

