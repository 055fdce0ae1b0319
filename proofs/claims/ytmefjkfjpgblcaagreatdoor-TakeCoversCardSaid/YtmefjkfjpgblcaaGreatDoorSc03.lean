/- Texts packed: GenB, CodeT. -/
import Derived.Test.YtmefjkfjpgblcaaGreatDoorRows
import Derived.Test.YtmefjkfjpgblcaaGreatDoorSc01
import Derived.Test.YtmefjkfjpgblcaaGreatDoorSc02
/- The generator's rolls. -/
namespace Go.Proofs.YtmefjkfjpgblcaaGreatDoor
set_option linter.unusedVariables false
open Go.RowKit

theorem RollsBlk.keep {w w' : World} {B : Nat} {a b c : Roll} (h : RollsBlk w B a b c) (hk : w'.heap[B]? = w.heap[B]?) : RollsBlk w' B a b c := hk.trans h
theorem RollsBlk.grown {w w' : World} {B sb : Nat} {a b c : Roll} (h : RollsBlk w B a b c) (hg : w.grownBy w' (some sb)) (hne : B ≠ sb) : RollsBlk w' B a b c := h.keep (hg.block B (heap_lt h) (by simpa using hne))
theorem RollsBlk.alloc {w : World} {B : Nat} {a b c : Roll} (h : RollsBlk w B a b c) (o : Obj) : RollsBlk (w.alloc o) B a b c := h.keep (Below.heap_alloc w o B (heap_lt h))
theorem setBlk {w : World} {B i : Nat} {cs : Array Value} {t : TypeId} (v : Value) (h : w.heap[B]? = some (.cells cs t (0, 0))) : (w.setCell ⟨B, i, none⟩ v).heap[B]? = some (.cells (cs.setIfInBounds i v) t (0, 0)) := by
  simp [World.setCell, Array.getElem?_modify, h]

/-- The rolls' slice: three rolls within their bounds, in a block of their own. -/
def isRolls (sb : Nat) (v : Value) (w : World) : Prop :=
  ∃ (B : Nat) (a b c : Roll), v = .slice (some ⟨B, 0, none⟩) 3 3 ∧ sb < B ∧ B < w.heap.size ∧ RollsBlk w B a b c ∧ rollBd a ∧ rollBd b ∧ rollBd c

theorem mem_bd {l : List Int} (h : (l.all fun x => decide (-10000000 ≤ x ∧ x ≤ 10000000)) = true) {x : Int} (hx : x ∈ l) : -10000000 ≤ x ∧ x ≤ 10000000 := by
  rw [List.all_eq_true] at h; simpa using h x hx
theorem mem_sz {l : List ByteArray} (h : (l.all fun x => decide (x.size ≤ 1000)) = true) {x : ByteArray} (hx : x ∈ l) : x.size ≤ 1000 := by
  rw [List.all_eq_true] at h; simpa using h x hx

theorem bdMk {n : ByteArray} {a b c d : Int} (h : n.size ≤ 1000) (ha : -10000000 ≤ a ∧ a ≤ 10000000) (hb : -10000000 ≤ b ∧ b ≤ 10000000) (hc : -10000000 ≤ c ∧ c ≤ 10000000) (hd : -10000000 ≤ d ∧ d ≤ 10000000) : rollBd ⟨n, a, b, c, d⟩ :=
  ⟨h, ha.1, ha.2, hb.1, hb.2, hc.1, hc.2, hd.1, hd.2⟩

def R3 (w : World) (B : Nat) : Prop := ∃ a b c, RollsBlk w B a b c ∧ rollBd a ∧ rollBd b ∧ rollBd c
theorem R3.grown {w w' : World} {B sb : Nat} (h : R3 w B) (hg : w.grownBy w' (some sb)) (hne : B ≠ sb) : R3 w' B :=
  let ⟨a, b, c, h, ha, hb, hc⟩ := h; ⟨a, b, c, h.grown hg hne, ha, hb, hc⟩
theorem R3.alloc {w : World} {B : Nat} (h : R3 w B) (o : Obj) : R3 (w.alloc o) B :=
  let ⟨a, b, c, h, ha, hb, hc⟩ := h; ⟨a, b, c, h.alloc o, ha, hb, hc⟩
theorem R3.rolls {w : World} {B sb : Nat} (h : R3 w B) (h1 : sb < B) : isRolls sb (.slice (some ⟨B, 0, none⟩) 3 3) w :=
  let ⟨a, b, c, h, ha, hb, hc⟩ := h; ⟨B, a, b, c, rfl, h1, heap_lt h, h, ha, hb, hc⟩
theorem R3.name {w : World} {B m : Nat} (h : R3 w B) (hm : m < 3) : (∃ s, w.cell? ⟨B, m * 5, none⟩ = some (.string s)) ∧ w.frozen? ⟨B, m * 5, none⟩ = false := by
  obtain ⟨a, b, c, h, ha, hb, hc⟩ := h
  obtain ⟨h1, h2⟩ := str_cells h
  refine ⟨?_, h2 _⟩
  rw [h1]
  rcases (show m = 0 ∨ m = 1 ∨ m = 2 by omega) with rfl | rfl | rfl <;> exact ⟨_, rfl⟩
theorem R3.int {w : World} {B m : Nat} (h : R3 w B) (hm : m < 3) (j : Nat) (hj : 1 ≤ j ∧ j ≤ 4) : (∃ s, w.cell? ⟨B, m * 5 + j, none⟩ = some (.int .i64 s)) ∧ w.frozen? ⟨B, m * 5 + j, none⟩ = false := by
  obtain ⟨a, b, c, h, ha, hb, hc⟩ := h
  obtain ⟨h1, h2⟩ := str_cells h
  refine ⟨?_, h2 _⟩
  rw [h1]
  rcases (show m = 0 ∨ m = 1 ∨ m = 2 by omega) with rfl | rfl | rfl <;> rcases (show j = 1 ∨ j = 2 ∨ j = 3 ∨ j = 4 by omega) with rfl | rfl | rfl | rfl <;> exact ⟨_, rfl⟩
theorem R3.setName {w : World} {B m : Nat} (h : R3 w B) (hm : m < 3) {s : ByteArray} (hs : s.size ≤ 1000) : R3 (w.setCell ⟨B, m * 5, none⟩ (.string s)) B := by
  obtain ⟨a, b, c, h, ha, hb, hc⟩ := h
  rcases (show m = 0 ∨ m = 1 ∨ m = 2 by omega) with rfl | rfl | rfl
  · exact ⟨{ a with name := s }, b, c, setBlk _ h, ⟨hs, ha.2⟩, hb, hc⟩
  · exact ⟨a, { b with name := s }, c, setBlk _ h, ha, ⟨hs, hb.2⟩, hc⟩
  · exact ⟨a, b, { c with name := s }, setBlk _ h, ha, hb, ⟨hs, hc.2⟩⟩
def Roll.put (r : Roll) (j : Nat) (x : Int) : Roll := if j = 1 then { r with rate := x } else if j = 2 then { r with start := x } else if j = 3 then { r with long := x } else { r with drift := x }
theorem put_bd {r : Roll} (h : rollBd r) (j : Nat) {x : Int} (hx : -10000000 ≤ x ∧ x ≤ 10000000) : rollBd (r.put j x) := by
  unfold Roll.put rollBd at *
  split
  · exact ⟨h.1, hx.1, hx.2, h.2.2.2⟩
  · split
    · exact ⟨h.1, h.2.1, h.2.2.1, hx.1, hx.2, h.2.2.2.2.2⟩
    · split
      · exact ⟨h.1, h.2.1, h.2.2.1, h.2.2.2.1, h.2.2.2.2.1, hx.1, hx.2, h.2.2.2.2.2.2.2⟩
      · exact ⟨h.1, h.2.1, h.2.2.1, h.2.2.2.1, h.2.2.2.2.1, h.2.2.2.2.2.1, h.2.2.2.2.2.2.1, hx.1, hx.2⟩
theorem R3.setInt {w : World} {B m : Nat} (h : R3 w B) (hm : m < 3) (j : Nat) (hj : 1 ≤ j ∧ j ≤ 4) {x : Int} (hx : -10000000 ≤ x ∧ x ≤ 10000000) : R3 (w.setCell ⟨B, m * 5 + j, none⟩ (.int .i64 x)) B := by
  obtain ⟨a, b, c, h, ha, hb, hc⟩ := h
  rcases (show m = 0 ∨ m = 1 ∨ m = 2 by omega) with rfl | rfl | rfl
  · refine ⟨a.put j x, b, c, ?_, put_bd ha j hx, hb, hc⟩
    rcases (show j = 1 ∨ j = 2 ∨ j = 3 ∨ j = 4 by omega) with rfl | rfl | rfl | rfl <;> exact setBlk _ h
  · refine ⟨a, b.put j x, c, ?_, ha, put_bd hb j hx, hc⟩
    rcases (show j = 1 ∨ j = 2 ∨ j = 3 ∨ j = 4 by omega) with rfl | rfl | rfl | rfl <;> exact setBlk _ h
  · refine ⟨a, b, c.put j x, ?_, ha, hb, put_bd hc j hx⟩
    rcases (show j = 1 ∨ j = 2 ∨ j = 3 ∨ j = 4 by omega) with rfl | rfl | rfl | rfl <;> exact setBlk _ h

set_option maxHeartbeats 4000000 in
theorem Rolls_c (sb : Nat) (k : Int) (w : World) (hs : Str w sb k) (hk : k ≤ 4000000000000000000) :
    Calls Tryz.prog 21 #[.pointer (some ⟨sb, 0, none⟩)] w (Took sb k 20 (isRolls sb) w) := by
  have h0 := hs.nonneg
  have HS := Lib.hid hs; clear hs
  have hlt := HS.out.lt
  go_enter Tryz.func21, Tryz.ntmps21
  go_wp2_with fail
  refine (pickL w [1, 1, 2, 3, 4] _ _ _ _ rfl rfl (by decide) (by decide) HS.out (by omega)).mono ?_
  rintro e w1 ⟨v1, k1, rfl, ⟨x1, hx1, rfl⟩, hk1, hs1, hg1⟩
  have b1 := mem_bd (by decide) hx1
  have S1 := Lib.hid hs1; have G1 := Lib.hid (gTrans (gAlloc (gRefl w sb) _) hg1); clear hs1 hg1 hx1
  have z1 := S1.out.lt
  go_wp2_with fail
  refine (pickL w1 [0, 1000, 86000] _ _ _ _ rfl rfl (by decide) (by decide) S1.out (by omega)).mono ?_
  rintro e w2 ⟨v2, k2, rfl, ⟨x2, hx2, rfl⟩, hk2, hs2, hg2⟩
  have b2 := mem_bd (by decide) hx2
  have S2 := Lib.hid hs2; have G2 := Lib.hid (gTrans (gAlloc G1.out _) hg2); clear hs2 hg2 hx2
  go_wp2_with fail
  refine (pickL w2 [0, 5000] _ _ _ _ rfl rfl (by decide) (by decide) S2.out (by omega)).mono ?_
  rintro e w3 ⟨v3, k3, rfl, ⟨x3, hx3, rfl⟩, hk3, hs3, hg3⟩
  have b3 := mem_bd (by decide) hx3
  have S3 := Lib.hid hs3; have G3 := Lib.hid (gTrans (gAlloc G2.out _) hg3); clear hs3 hg3 hx3
  go_wp2_with fail
  refine (pickL w3 [500, 3000] _ _ _ _ rfl rfl (by decide) (by decide) S3.out (by omega)).mono ?_
  rintro e w4 ⟨v4, k4, rfl, ⟨x4, hx4, rfl⟩, hk4, hs4, hg4⟩
  have b4 := mem_bd (by decide) hx4
  have S4 := Lib.hid hs4; have G4 := Lib.hid (gTrans (gAlloc G3.out _) hg4); clear hs4 hg4 hx4
  go_wp2_with fail
  refine (pickL w4 [x1, x1, 1, 4] _ _ 4 _ rfl rfl (by decide) (by decide) S4.out (by omega)).mono ?_
  rintro e w5 ⟨v5, k5, rfl, ⟨x5, hx5, rfl⟩, hk5, hs5, hg5⟩
  have b5 : -10000000 ≤ x5 ∧ x5 ≤ 10000000 := by simp at hx5; omega
  have S5 := Lib.hid hs5; have G5 := Lib.hid (gTrans (gAlloc G4.out _) hg5); clear hs5 hg5 hx5
  go_wp2_with fail
  refine (pickL w5 [0, 1000, -1000, 7] _ _ _ _ rfl rfl (by decide) (by decide) S5.out (by omega)).mono ?_
  rintro e w6 ⟨v6, k6, rfl, ⟨x6, hx6, rfl⟩, hk6, hs6, hg6⟩
  have b6 := mem_bd (by decide) hx6
  have S6 := Lib.hid hs6; have G6 := Lib.hid (gTrans (gAlloc G5.out _) hg6); clear hs6 hg6 hx6
  have z6 := S6.out.lt
  have z66 := G6.out.size
  have HB6 : ∀ W : World, (W.alloc (.cells #[.string ⟨#[65, 49]⟩, .int .i64 x1, .int .i64 x2, .int .i64 3000, .int .i64 0, .string ⟨#[65, 50]⟩, .int .i64 x1, .int .i64 x3, .int .i64 x4, .int .i64 0, .string ⟨#[83, 49]⟩, .int .i64 x5, .int .i64 0, .int .i64 100000, .int .i64 x6] 114)).heap[W.heap.size]? = _ := fun W => heap_alloc_new W _
  have HB7 := Lib.hid HB6
  clear HB6
  go_wp2_with fail
  refine (flip_c sb k6 10 _ (S6.out.alloc _) (by omega) (by omega) (by omega)).mono ?_
  rintro e w7 ⟨v7, k7, rfl, ⟨fl, rfl⟩, hk7, hs7, hg7⟩
  have R7 : RollsBlk w7 w6.heap.size ⟨⟨#[65, 49]⟩, x1, x2, 3000, 0⟩ ⟨⟨#[65, 50]⟩, x1, x3, x4, 0⟩ ⟨⟨#[83, 49]⟩, x5, 0, 100000, x6⟩ := RollsBlk.grown (HB7.out w6) hg7 (by omega)
  have z7 := hg7.size
  simp at z7
  have S7 := Lib.hid hs7; have G7 := Lib.hid (gTrans (gAlloc G6.out _) hg7); clear hs7 hg7
  have HR7 := Lib.hid (show R3 w7 w6.heap.size from ⟨_, _, _, R7, bdMk (by decide) (by omega) (by omega) (by omega) (by omega), bdMk (by decide) (by omega) (by omega) (by omega) (by omega), bdMk (by decide) (by omega) (by omega) (by omega) (by omega)⟩); clear R7
  cases fl with
  | false =>
    go_wp2
    go_ret
    exact ⟨_, k7, rfl, HR7.out.rolls (by omega), by omega, S7.out, G7.out⟩
  | true =>
    go_wp2_with fail
    refine (next_c sb k7 3 _ S7.out (by omega) (by omega) (by omega)).mono ?_
    rintro e w8 ⟨v8, k8, rfl, ⟨x8, hx80, hx81, rfl⟩, hk8, hs8, hg8⟩
    have z8 := hg8.size
    have HR8 := Lib.hid (HR7.out.grown hg8 (by omega))
    have S8 := Lib.hid hs8; have G8 := Lib.hid (gTrans G7.out hg8); clear hs8 hg8
    obtain ⟨m, rfl⟩ := Int.eq_ofNat_of_zero_le hx80
    go_wp2_with fail
    refine (next_c sb k8 5 _ S8.out (by omega) (by omega) (by omega)).mono ?_
    rintro e w9 ⟨v9, k9, rfl, ⟨x9, hx90, hx91, rfl⟩, hk9, hs9, hg9⟩
    have z9 := hg9.size
    have HR9 := Lib.hid (HR8.out.grown hg9 (by omega))
    have S9 := Lib.hid hs9; have G9 := Lib.hid (gTrans G8.out hg9); clear hs9 hg9
    have hm : m < 3 := by omega
    clear hx80 hx81
    rcases (show x9 = 0 ∨ x9 = 1 ∨ x9 = 2 ∨ x9 = 3 ∨ x9 = 4 by omega) with rfl | rfl | rfl | rfl | rfl
    ·
      go_wp2_with fail
      refine (oneL w9 [⟨#[]⟩, ⟨#[97, 49]⟩, ⟨#[65, 49]⟩, ⟨#[65, 66, 67, 68, 69, 70, 71, 72, 73]⟩] _ _ 4 _ rfl rfl (by decide) (by decide) S9.out (by omega)).mono ?_
      rintro e w10 ⟨v10, k10, rfl, ⟨x10, hx10, rfl⟩, hk10, hs10, hg10⟩
      have bb := mem_sz (by decide) hx10
      have HR10 := Lib.hid ((HR9.out.alloc _).grown hg10 (by omega))
      have S10 := Lib.hid hs10; have G10 := Lib.hid (gTrans (gAlloc G9.out _) hg10); have z10 := hg10.size; clear hs10 hg10 hx10
      simp at z10
      obtain ⟨⟨s0, c0⟩, f0⟩ := HR10.out.name hm
      go_wp2
      go_ret
      exact ⟨_, k10, rfl, (HR10.out.setName hm bb).rolls (by omega), by omega, S10.out.setCell (by show sb < w6.heap.size; omega) _, gSet G10.out (by show w.heap.size ≤ w6.heap.size; omega) _⟩
    ·
      go_wp2_with fail
      refine (pickL w9 [0, 5] _ _ 2 _ rfl rfl (by decide) (by decide) S9.out (by omega)).mono ?_
      rintro e w10 ⟨v10, k10, rfl, ⟨x10, hx10, rfl⟩, hk10, hs10, hg10⟩
      have bb := mem_bd (by decide) hx10
      have HR10 := Lib.hid ((HR9.out.alloc _).grown hg10 (by omega))
      have S10 := Lib.hid hs10; have G10 := Lib.hid (gTrans (gAlloc G9.out _) hg10); have z10 := hg10.size; clear hs10 hg10 hx10
      simp at z10
      obtain ⟨⟨s0, c0⟩, f0⟩ := HR10.out.int hm 1 (by omega)
      go_wp2
      go_ret
      exact ⟨_, k10, rfl, (HR10.out.setInt hm 1 (by omega) bb).rolls (by omega), by omega, S10.out.setCell (by show sb < w6.heap.size; omega) _, gSet G10.out (by show w.heap.size ≤ w6.heap.size; omega) _⟩
    ·
      go_wp2_with fail
      refine (pickL w9 [-1, 2592000, 2073599] _ _ 3 _ rfl rfl (by decide) (by decide) S9.out (by omega)).mono ?_
      rintro e w10 ⟨v10, k10, rfl, ⟨x10, hx10, rfl⟩, hk10, hs10, hg10⟩
      have bb := mem_bd (by decide) hx10
      have HR10 := Lib.hid ((HR9.out.alloc _).grown hg10 (by omega))
      have S10 := Lib.hid hs10; have G10 := Lib.hid (gTrans (gAlloc G9.out _) hg10); have z10 := hg10.size; clear hs10 hg10 hx10
      simp at z10
      obtain ⟨⟨s0, c0⟩, f0⟩ := HR10.out.int hm 2 (by omega)
      go_wp2
      go_ret
      exact ⟨_, k10, rfl, (HR10.out.setInt hm 2 (by omega) bb).rolls (by omega), by omega, S10.out.setCell (by show sb < w6.heap.size; omega) _, gSet G10.out (by show w.heap.size ≤ w6.heap.size; omega) _⟩
    ·
      go_wp2_with fail
      refine (pickL w9 [0, -1, 2592000] _ _ 3 _ rfl rfl (by decide) (by decide) S9.out (by omega)).mono ?_
      rintro e w10 ⟨v10, k10, rfl, ⟨x10, hx10, rfl⟩, hk10, hs10, hg10⟩
      have bb := mem_bd (by decide) hx10
      have HR10 := Lib.hid ((HR9.out.alloc _).grown hg10 (by omega))
      have S10 := Lib.hid hs10; have G10 := Lib.hid (gTrans (gAlloc G9.out _) hg10); have z10 := hg10.size; clear hs10 hg10 hx10
      simp at z10
      obtain ⟨⟨s0, c0⟩, f0⟩ := HR10.out.int hm 3 (by omega)
      go_wp2
      go_ret
      exact ⟨_, k10, rfl, (HR10.out.setInt hm 3 (by omega) bb).rolls (by omega), by omega, S10.out.setCell (by show sb < w6.heap.size; omega) _, gSet G10.out (by show w.heap.size ≤ w6.heap.size; omega) _⟩
    ·
      go_wp2_with fail
      refine (pickL w9 [1001, -1001] _ _ 2 _ rfl rfl (by decide) (by decide) S9.out (by omega)).mono ?_
      rintro e w10 ⟨v10, k10, rfl, ⟨x10, hx10, rfl⟩, hk10, hs10, hg10⟩
      have bb := mem_bd (by decide) hx10
      have HR10 := Lib.hid ((HR9.out.alloc _).grown hg10 (by omega))
      have S10 := Lib.hid hs10; have G10 := Lib.hid (gTrans (gAlloc G9.out _) hg10); have z10 := hg10.size; clear hs10 hg10 hx10
      simp at z10
      obtain ⟨⟨s0, c0⟩, f0⟩ := HR10.out.int hm 4 (by omega)
      go_wp2
      go_ret
      exact ⟨_, k10, rfl, (HR10.out.setInt hm 4 (by omega) bb).rolls (by omega), by omega, S10.out.setCell (by show sb < w6.heap.size; omega) _, gSet G10.out (by show w.heap.size ≤ w6.heap.size; omega) _⟩
end Go.Proofs.YtmefjkfjpgblcaaGreatDoor

/- The program's reader of codes. -/
namespace Go.Proofs.YtmefjkfjpgblcaaGreatDoor
set_option linter.unusedVariables false
open Go.RowKit Go.Sort

end Go.Proofs.YtmefjkfjpgblcaaGreatDoor

