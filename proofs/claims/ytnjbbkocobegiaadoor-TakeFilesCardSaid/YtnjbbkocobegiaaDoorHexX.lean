/- The reference digest. -/
import Derived.Test.YtnjbbkocobegiaaDoorHexW
namespace Go.Proofs.YtnjbbkocobegiaaDoor
set_option linter.unusedVariables false
open Go.RowKit

theorem hex_tab : ∀ v : Fin 16, ((ByteArray.mk #[48, 49, 50, 51, 52, 53, 54, 55, 56, 57, 97, 98, 99, 100, 101, 102])[v.val]'(by have := v.isLt; show v.val < 16; omega)).toNat = (hexd v.val).toNat := by decide +kernel
theorem hex_run {P : Program} {T : TypeId} (hT : P.underlying T = some .string) (u : Nat) (hu : u < 16) (W : World) : (Instr.index T (.string ⟨#[48, 49, 50, 51, 52, 53, 54, 55, 56, 57, 97, 98, 99, 100, 101, 102]⟩) (.int .u64 (u : Int))).run P W = .ok (.int .u8 ((hexd u).toNat : Int)) W := by
  rw [run_index_string W T _ _ _ hT, dif_pos ⟨by omega, by show (u : Int) < 16; omega⟩]
  have h2 := hex_tab ⟨u, hu⟩
  simp only [Int.toNat_natCast]
  rw [h2]
theorem and_dig {h k d : Nat} (hh : h < 18446744073709551616) (hd : h / 16 ^ k % 16 = d) : bits BinOp.and IntKind.u64 ((h : Int) / 2 ^ (4 * k)) 15 = (d : Int) := by
  have h1 : ((h : Int) / 2 ^ (4 * k)) = ((h / 2 ^ (4 * k) : Nat) : Int) := by push_cast; rfl
  have h2 : h / 2 ^ (4 * k) < 18446744073709551616 := Nat.lt_of_le_of_lt (Nat.div_le_self _ _) hh
  rw [h1, show (15 : Int) = ((15 : Nat) : Int) from rfl, bits_and_u64_nat _ 15 h2 (by omega), ← hd, Nat.pow_mul]
  rw [show (2 ^ 4 : Nat) = 16 from rfl]
  exact congrArg Nat.cast (Nat.and_two_pow_sub_one_eq_mod _ 4)
theorem mk16 (w : World) : (Instr.makeSlice 45 (.int .i64 16) (.int .i64 16)).run Tryd.prog w = .ok (.slice (some ⟨w.heap.size, 0, none⟩) 16 16) (w.alloc (.cells ((List.replicate 16 (0 : UInt8)).map fun c : UInt8 => Value.int .u8 (c.toNat : Int)).toArray 5)) := by kernel_rfl
/-- The lowest figures of a number, in a block of sixteen bytes. -/
def Blk16 (w : World) (B k h : Nat) : Prop := ∃ (cs : List UInt8) (T : TypeId), cs.length = 16 ∧ w.heap[B]? = some (.cells (cs.map fun c => Value.int .u8 (c.toNat : Int)).toArray T (0, 0)) ∧ ∀ t, t < k → cs[15 - t]? = some (hexd (h / 16 ^ t % 16))
set_option maxRecDepth 100000 in
set_option maxHeartbeats 1600000 in
theorem DigestOf_c (s : ByteArray) (w : World) (hs : s.size ≤ 140737488355328) : Calls Tryd.prog 5 #[.string s] w fun e w' => e = .returned (.string (digestB s)) ∧ Below w.heap.size w w' := by
  have hcv := Lib.run_convert_string_bytes (P := Tryd.prog) w 9 45 5 s Tryd.underlying9 Tryd.underlying45 Tryd.underlying5
  obtain ⟨cp, hcp⟩ : ∃ cp, grownCap w s.size 0 5 = cp := ⟨_, rfl⟩
  rw [hcp] at hcv
  have HB1 := Lib.hid (Joins.below_bytesWorld w.heap.size w 5 s (Nat.le_refl _))
  have HC1 := Lib.hid (fun j hj => Lib.bytesWorld_cell w 5 s j hj)
  have hz1 := Lib.bytesWorld_size w 5 s
  generalize Lib.bytesWorld w 5 s = w1 at *
  have HZ1 := Lib.hid hz1; clear hz1 hcp
  go_enter Tryd.func5, Tryd.ntmps5
  go_wp2
  go_loop [3, 5, 11] (fun h _ i => ∃ k : Nat, k ≤ s.size ∧ i = .int .i64 k ∧ h = .int .u64 ((hashN (s.data.toList.take k) : Nat) : Int)) (fun _ _ i => s.size - (intOf i).toNat)
  case atStart => exact ⟨0, Nat.zero_le _, rfl, rfl⟩
  case round =>
    obtain ⟨k, hk, rfl, rfl⟩ := hrel
    have hh := hashN_lt (s.data.toList.take k)
    by_cases hlt : k < s.size
    · have hu := s[k].toNat_lt
      have hc0 : w1.cell? ⟨w.heap.size, k, none⟩ = some (.int .u8 (s[k].toNat : Int)) := by
        rw [HC1.out k hlt, List.getD_eq_getElem?_getD, List.getElem?_eq_getElem (by simpa using hlt)]; rfl
      have HS := Lib.hid (show hashN (s.data.toList.take (k + 1)) = hashStep (hashN (s.data.toList.take k)) s[k] by
        rw [List.take_succ_eq_append_getElem (by simpa using hlt), hashN_snoc]; rfl)
      have HE := Lib.hid (step_eq (h := hashN (s.data.toList.take k)) s[k] hh)
      generalize hashN (s.data.toList.take k) = h at *
      go_wp2
      go_round
      case rel => exact ⟨k + 1, by omega, intNum, by rw [HS.out]; exact ret_u64 HE.out⟩
      case measure => simp [intOf]; omega
    · have HD := Lib.hid (show hashN (s.data.toList.take k) = hashN s.data.toList by rw [List.take_of_length_le (by simp; omega)])
      generalize hashN (s.data.toList.take k) = h at *
      have hmk := mk16 w1
      have hb0 := HB1.out
      go_wp2
      rw [HZ1.out]
      go_loopw [7, 25] (fun _ i wr => ∃ k : Nat, k ≤ 16 ∧ i = .int .i64 k ∧ Below w.heap.size w wr ∧ w.heap.size + 1 < wr.heap.size ∧ Hid (Blk16 wr (w.heap.size + 1) k h)) (fun _ i _ => 16 - (intOf i).toNat)
      case atStart => exact ⟨0, by omega, rfl, hb0.alloc (by have := hb0.size; omega) _, by simp [HZ1.out], ⟨List.replicate 16 0, _, by simp, by rw [← HZ1.out]; exact heap_alloc_new w1 _, fun t ht => absurd ht (Nat.not_lt_zero t)⟩⟩
      case round =>
        obtain ⟨k, hk, rfl, hb, hz, HB⟩ := hrel
        by_cases hlt2 : k < 16
        · obtain ⟨d, hd⟩ : ∃ d, h / 16 ^ k % 16 = d := ⟨_, rfl⟩
          have hd16 : d < 16 := by omega
          obtain ⟨q, hq⟩ : ∃ q : Nat, 15 - k = q := ⟨_, rfl⟩
          have hq' : (15 : Int) - (k : Int) = (q : Int) := by omega
          have hdr := fun W => hex_run (P := Tryd.prog) (T := 9) Tryd.underlying9 d hd16 W
          obtain ⟨cs, T, hl16, hblk, hcs⟩ := HB.out
          obtain ⟨hc, hf⟩ := str_cells hblk
          have hq16 : q < cs.length := by omega
          have c0 : wr.cell? ⟨w.heap.size + 1, q, none⟩ = some (.int .u8 (cs[q].toNat : Int)) := by rw [hc]; simp [hq16]
          have f0 := hf q
          have HBK := Lib.hid hblk
          have HCS := Lib.hid hcs
          have HDD := Lib.hid hd
          have ha := and_dig hh hd
          clear hc hf hblk hcs hd
          go_wp2
          go_roundw
          case rel => exact ⟨k + 1, by omega, intNum, hb.setCell (Nat.le_succ _) _, by show _ < (World.setCell _ _ _).heap.size; simpa [World.setCell] using hz, ⟨cs.set q (hexd d), T, by simpa using hl16, by rw [setBlk' _ HBK.out]; simp [List.map_set], fun t ht => by
            rw [List.getElem?_set]
            by_cases e : q = 15 - t
            · have : t = k := by omega
              subst this
              rw [if_pos e, if_pos hq16, HDD.out]
            · rw [if_neg e]; exact HCS.out t (by omega)⟩⟩
          case measure => simp [intOf]; omega
        · have e : k = 16 := by omega
          subst e
          obtain ⟨cs, T, hl16, hblk, hcs⟩ := HB.out
          obtain ⟨hc, hf⟩ := str_cells hblk
          have hcp : cs = padk 16 h := by
            apply List.ext_getElem?
            intro i
            by_cases hi : i < 16
            · have h1 := hcs (15 - i) (by omega)
              have h2 := padk_at 16 h (15 - i) (by omega)
              rw [show 15 - (15 - i) = i by omega] at h1
              rw [show 16 - 1 - (15 - i) = i by omega] at h2
              rw [h1, h2]
            · rw [List.getElem?_eq_none (by omega), List.getElem?_eq_none (by rw [padk_len]; omega)]
          have hcv := run_bytes_at (P := Tryd.prog) wr 45 9 5 Tryd.underlying45 Tryd.underlying5 Tryd.underlying9 (w.heap.size + 1) 0 16 16 cs hl16.symm (fun j x hj => by
            rw [hc, List.getElem?_toArray, List.getElem?_map, Nat.zero_add, hj]; rfl)
          have HV := Lib.hid (show (⟨cs.toArray⟩ : ByteArray) = digestB s by unfold digestB; rw [hcp, HD.out])
          clear hc hf hblk hcs hcp
          go_wp2
          go_ret
          exact ⟨ret_str HV.out, hb⟩

end Go.Proofs.YtnjbbkocobegiaaDoor
