/- Texts packed: HexW. -/
import Derived.Test.YtodlfdfkhdfblaaGreatDoorRows
import Derived.Test.YtodlfdfkhdfblaaGreatDoorTn02
import Derived.Test.YtodlfdfkhdfblaaGreatDoorTn01
import Derived.Laws.Bits64
import Derived.Laws.Bits64b
import Derived.Lib.SmallJoins
import Derived.Outline
/- Digests: the program's and the reference's. -/
namespace Go.Proofs.YtodlfdfkhdfblaaGreatDoor
set_option linter.unusedVariables false
open Go.RowKit Go.Sort

theorem step_eq {h : Nat} (c : UInt8) (hh : h < 18446744073709551616) : IntKind.u64.wrap (bits BinOp.xor IntKind.u64 (h : Int) (c.toNat : Int) * 1099511628211) = ((hashStep h c : Nat) : Int) := by
  have hc := c.toNat_lt
  rw [bits_xor_u64_nat h c.toNat hh (by omega), IntKind.wrap_u64]
  unfold hashStep
  generalize h ^^^ c.toNat = x
  omega
theorem ret_u64 {a b : Int} (h : a = b) : Value.int .u64 a = .int .u64 b := by rw [h]

/-- The one cell of the library's table that a base of sixteen reads. -/
def TzLaid (w : World) : Prop := w.cell? ⟨9, 15, none⟩ = some (.int .u8 4) ∧ 9 < w.heap.size
theorem tz_below {w w' : World} {B : Nat} (h : TzLaid w) (hb : Below B w w') (hB : w.heap.size ≤ B) : TzLaid w' :=
  ⟨(hb.cell (Nat.lt_of_lt_of_le h.2 hB)).trans h.1, Nat.lt_of_lt_of_le h.2 hb.size⟩

set_option maxHeartbeats 800000 in
theorem tz16_c (w : World) (h : TzLaid w) : Calls Tryz.prog 241 #[.int .u64 16] w fun e w' => e = .returned (.int .i64 4) ∧ w = w' := by
  obtain ⟨h1, h2⟩ := h
  have e1 : bits BinOp.and IntKind.u64 16 (IntKind.u64.wrap (-16)) = 16 := by decide +kernel
  have e2 : IntKind.u64.wrap 4573926000821661840 = 4573926000821661840 := by decide +kernel
  have e3 : IntKind.u64.wrap (16 * 285870213051353865) / 288230376151711744 = 15 := by decide +kernel
  have e4 : IntKind.u64.wrap 4573923408821661840 / 288230376151711744 = 15 := by decide +kernel
  clear e2
  go_enter Tryz.func241, Tryz.ntmps241
  go_wp2
  go_ret
  exact ⟨rfl, rfl⟩

def digs : ByteArray := ⟨#[48, 49, 50, 51, 52, 53, 54, 55, 56, 57, 97, 98, 99, 100, 101, 102, 103, 104, 105, 106, 107, 108, 109, 110, 111, 112, 113, 114, 115, 116, 117, 118, 119, 120, 121, 122]⟩
theorem dig_tab : ∀ v : Fin 16, ((ByteArray.mk #[48, 49, 50, 51, 52, 53, 54, 55, 56, 57, 97, 98, 99, 100, 101, 102, 103, 104, 105, 106, 107, 108, 109, 110, 111, 112, 113, 114, 115, 116, 117, 118, 119, 120, 121, 122])[v.val]'(by have := v.isLt; show v.val < 36; omega)).toNat = (hexd v.val).toNat := by decide +kernel
theorem dig_run {P : Program} {T : TypeId} (hT : P.underlying T = some .string) (u : Nat) (hu : u < 16) (W : World) : (Instr.index T (.string ⟨#[48, 49, 50, 51, 52, 53, 54, 55, 56, 57, 97, 98, 99, 100, 101, 102, 103, 104, 105, 106, 107, 108, 109, 110, 111, 112, 113, 114, 115, 116, 117, 118, 119, 120, 121, 122]⟩) (.int .u64 (u : Int))).run P W = .ok (.int .u8 ((hexd u).toNat : Int)) W := by
  rw [run_index_string W T _ _ _ hT, dif_pos ⟨by omega, by show (u : Int) < 36; omega⟩]
  have h2 := dig_tab ⟨u, hu⟩
  simp only [Int.toNat_natCast]
  rw [h2]
/-- 'string(b)' of bytes that lie in a block. -/
theorem run_bytes_at {P : Program} (w : World) (src dst e : TypeId) (hs : P.underlying src = some (.slice e)) (he : P.underlying e = some (.int .u8)) (hd : P.underlying dst = some .string) (B i n c : Nat) (l : List UInt8) (hn : n = l.length) (hc : ∀ (j : Nat) (x : UInt8), l[j]? = some x → w.cell? ⟨B, i + j, none⟩ = some (.int .u8 (x.toNat : Int))) :
    (convert src dst (.slice (some ⟨B, i, none⟩) n c)).run P w = .ok (.string ⟨l.toArray⟩) w := by
  subst hn
  rw [run_convert_bytes_string _ src dst e _ _ _ hs he hd]
  have hl := run_loadCells_list (P := P) w ⟨B, i, none⟩ (l.map fun x => Value.int .u8 (x.toNat : Int)) (fun j v hj => by
    have : (⟨B, i, none⟩ : Addr).add j = ⟨B, i + j, none⟩ := by unfold Addr.add; split <;> simp_all
    rw [this]
    rw [List.getElem?_map] at hj
    cases hx : l[j]? with
    | none => rw [hx] at hj; cases hj
    | some x => rw [hx] at hj; simp at hj; rw [← hj]; exact hc j x hx)
  have hm : (l.map fun x => Value.int .u8 (x.toNat : Int)) = ((l.map fun x => (x.toNat : Int)).map (Value.int .u8)) := by simp
  rw [hm] at hl
  simp only [List.length_map] at hl
  rw [run_bytesToString _ _ _ c (l.map fun x => (x.toNat : Int)) hl]
  have hf : ∀ (l : List UInt8) (s : ByteArray), (l.map fun x => (x.toNat : Int)).foldl (fun r x => r.push (UInt8.ofNat x.toNat)) s = ⟨s.data ++ l.toArray⟩ := by
    intro l
    induction l with
    | nil => intro s; simp
    | cons x l ih => intro s; simp only [List.map_cons, List.foldl_cons]; rw [ih]; simp [ByteArray.push]
  rw [hf]
  have he0 : ByteArray.empty.data = #[] := rfl
  rw [he0]
  simp
theorem ba_ext' {a b : ByteArray} (h : a.data.toList = b.data.toList) : a = b := by
  rcases a with ⟨⟨a⟩⟩; rcases b with ⟨⟨b⟩⟩; simp at h; rw [h]
theorem setBlk' {w : World} {B i : Nat} {cs : Array Value} {t : TypeId} (v : Value) (h : w.heap[B]? = some (.cells cs t (0, 0))) : (w.setCell ⟨B, i, none⟩ v).heap[B]? = some (.cells (cs.setIfInBounds i v) t (0, 0)) := by
  simp [World.setCell, Array.getElem?_modify, h]
theorem drop_set_eq {l : List UInt8} {q : Nat} (hq : q < l.length) {c : UInt8} : (l.set q c).drop q = c :: l.drop (q + 1) := by
  rw [List.drop_eq_getElem_cons (by simpa using hq)]
  simp [List.drop_set_of_lt]
/-- The bytes of a block of 65, from one on. -/
def Blk65 (w : World) (B : Nat) (i : Nat) (l : List UInt8) : Prop := ∃ (cs : List UInt8) (T : TypeId), cs.length = 65 ∧ w.heap[B]? = some (.cells (cs.map fun c => Value.int .u8 (c.toNat : Int)).toArray T (0, 0)) ∧ cs.drop i = l
set_option maxRecDepth 100000 in
set_option maxHeartbeats 1600000 in
theorem formatBits_c (h : Nat) (w : World) (hh : h < 18446744073709551616) (ht : TzLaid w) :
    Calls Tryz.prog 221 #[.slice none 0 0, .int .u64 (h : Int), .int .i64 16, .bool false, .bool false] w fun e w' => e = .returned (.tuple #[.slice none 0 0, .string ⟨(hexL h).toArray⟩]) ∧ Below w.heap.size w w' := by
  have HT := Lib.hid ht; clear ht
  have e0 : bits BinOp.and IntKind.i64 16 15 = 0 := by decide +kernel
  go_enter Tryz.func221, Tryz.ntmps221
  go_wp2_with (first | (go_at_call 241; refine (tz16_c _ (tz_below HT.out ((Below.refl _ _).alloc (Nat.le_refl _) _) (Nat.le_refl _))).mono ?_; rintro e w' ⟨rfl, rfl⟩) | go_in)
  go_loopw [1, 13] (fun s1 s13 wr => ∃ (p j u : Nat) (l : List UInt8), p + j = 65 ∧ j ≤ 15 ∧ u < 18446744073709551616 ∧ s1 = .int .u64 (u : Int) ∧ s13 = .int .i64 (p : Int) ∧ Below w.heap.size w wr ∧ w.heap.size < wr.heap.size ∧ Hid (u < 16 ^ (16 - j)) ∧ Hid (Blk65 wr w.heap.size p l) ∧ Hid (hexL h = hexL u ++ l)) (fun s1 _ _ => (intOf s1).toNat)
  case atStart => exact ⟨65, 0, h, [], rfl, by omega, hh, rfl, rfl, (Below.refl _ _).alloc (Nat.le_refl _) _, by simp, (by show h < 16 ^ 16; simpa using hh), ⟨List.replicate 65 0, _, by simp, heap_alloc_new w _, by simp⟩, by unfold Hid; simp⟩
  case round =>
    obtain ⟨p, j, u, l, hp, hj, hu, rfl, rfl, hb, hz, HU, HB, HX⟩ := hrel
    obtain ⟨q, rfl⟩ : ∃ q, p = q + 1 := ⟨p - 1, by omega⟩
    obtain ⟨d, hd⟩ : ∃ d, u % 16 = d := ⟨_, rfl⟩
    have hd16 : d < 16 := by omega
    by_cases hlt : 16 ≤ u
    · have ha : bits BinOp.and IntKind.u64 (u : Int) 15 = (d : Int) := by
        rw [show (15 : Int) = ((15 : Nat) : Int) from rfl, bits_and_u64_nat u 15 hu (by omega), show u &&& 15 = u % 16 from Nat.and_two_pow_sub_one_eq_mod u 4, hd]
      have hdr := fun W => dig_run (P := Tryz.prog) (T := 9) Tryz.underlying9 d hd16 W
      have hj14 : j ≤ 14 := by
        have := HU.out
        by_cases hc : j ≤ 14
        · exact hc
        · have e : j = 15 := by omega
          rw [e] at this; simp at this; omega
      have HU2 := Lib.hid (show u / 16 < 16 ^ (16 - (j + 1)) by
        have := HU.out
        rw [show 16 - j = (16 - (j + 1)) + 1 by omega, Nat.pow_succ] at this
        omega)
      have HX2 := Lib.hid (show hexL h = hexL (u / 16) ++ (hexd d :: l) by rw [HX.out, hexL_ge (by omega), hd]; simp)
      obtain ⟨cs, T, hl65, hblk, hdrop⟩ := HB.out
      obtain ⟨hc, hf⟩ := str_cells hblk
      have hq : q < cs.length := by omega
      have c0 : wr.cell? ⟨w.heap.size, q, none⟩ = some (.int .u8 (cs[q].toNat : Int)) := by rw [hc]; simp [hq]
      have f0 := hf q
      have HBK := Lib.hid hblk
      have HD := Lib.hid hdrop
      clear hc hf hblk hdrop hd
      go_wp2
      go_roundw
      case rel => exact ⟨q, j + 1, u / 16, hexd d :: l, by omega, by omega, by omega, ret_u64 (by omega), rfl, hb.setCell (Nat.le_refl _) _, by show _ < (World.setCell _ _ _).heap.size; simpa [World.setCell] using hz, HU2.out,
        ⟨cs.set q (hexd d), T, by simpa using hl65, by rw [setBlk' _ HBK.out]; simp [List.map_set], by rw [drop_set_eq hq]; rw [HD.out]⟩, HX2.out⟩
      case measure => simp [intOf]; omega
    · have hdr := fun W => dig_run (P := Tryz.prog) (T := 9) Tryz.underlying9 u (by omega) W
      have HX2 := Lib.hid (show hexL h = hexd u :: l by rw [HX.out, hexL_lt (by omega)]; rfl)
      obtain ⟨cs, T, hl65, hblk, hdrop⟩ := HB.out
      obtain ⟨hc, hf⟩ := str_cells hblk
      have hq : q < cs.length := by omega
      have c0 : wr.cell? ⟨w.heap.size, q, none⟩ = some (.int .u8 (cs[q].toNat : Int)) := by rw [hc]; simp [hq]
      have f0 := hf q
      have HBK := Lib.hid hblk
      have HD := Lib.hid hdrop
      clear hc hf hblk hdrop hd
      have hcv := run_bytes_at (P := Tryz.prog) (wr.setCell ⟨w.heap.size, q, none⟩ (.int .u8 ((hexd u).toNat : Int))) 128 9 5 Tryz.underlying128 Tryz.underlying5 Tryz.underlying9 w.heap.size q (65 - q) (65 - q) (hexd u :: l) (by rw [← HD.out]; simp; omega) (fun j x hj => by
        have hb2 := setBlk' (w := wr) (i := q) (.int .u8 ((hexd u).toNat : Int)) HBK.out
        rw [(str_cells hb2).1]
        rw [← HD.out, ← drop_set_eq hq, List.getElem?_drop] at hj
        rw [List.setIfInBounds_toArray, List.getElem?_toArray, show Value.int .u8 ((hexd u).toNat : Int) = (fun c : UInt8 => Value.int .u8 (c.toNat : Int)) (hexd u) from rfl, ← List.map_set, List.getElem?_map, hj]
        rfl)
      have p1 : (q : Int) ≤ 65 := by omega
      have p2 : (0 : Int) ≤ (q : Int) := by omega
      have p3 : ¬ 65 = q := by omega
      have p4 : q ≤ 65 := by omega
      go_wp2
      go_ret2
      exact ⟨by rw [HX2.out]; rfl, hb.setCell (Nat.le_refl _) _⟩

theorem rep48 (k : Nat) : (⟨(Lib.repeatL (ByteArray.mk #[48]).data.toList k).toArray⟩ : ByteArray) = ⟨(List.replicate k 48).toArray⟩ := by
  have : ∀ k, Lib.repeatL [48] k = List.replicate k (48 : UInt8) := by
    intro k
    induction k with
    | zero => rfl
    | succ k ih => rw [Lib.repeatL, ih]; rfl
  rw [show (ByteArray.mk #[48]).data.toList = [48] from rfl, this]
end Go.Proofs.YtodlfdfkhdfblaaGreatDoor

