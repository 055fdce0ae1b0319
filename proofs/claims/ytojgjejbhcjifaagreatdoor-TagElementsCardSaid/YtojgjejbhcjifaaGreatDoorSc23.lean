/- Texts packed: TgG. -/
import Derived.Test.YtojgjejbhcjifaaGreatDoorSc22
/- The generator's elements. -/
namespace Go.Proofs.YtojgjejbhcjifaaGreatDoor
set_option linter.unusedVariables false
open Go.RowKit Go.Sort

/-- An element by value. -/
def isEle (v : Value) (_ : World) : Prop := ∃ (k : Int) (s : ByteArray), v = .agg (pCs k s) ∧ 0 ≤ k ∧ k ≤ 12 ∧ s.size ≤ 60
theorem eleFin {w wx : World} {sb : Nat} {k0 n : Int} {k : Int} {s : ByteArray} {b : Nat} {T : TypeId} (h : PvS w sb [(b, pCs k s, T)] n wx) (h0 : 0 ≤ k) (h1 : k ≤ 12) (hs : s.size ≤ 60) (hn : n ≤ k0 + 10) : Took sb k0 10 isEle w (.returned (.agg (pCs k s))) wx :=
  ⟨_, n, rfl, ⟨k, s, rfl, h0, h1, hs⟩, hn, h.str, h.gr⟩
set_option maxRecDepth 100000 in
set_option maxHeartbeats 8000000 in
theorem Element_c (sb : Nat) (k0 : Int) (w : World) (hs : Str w sb k0) (hk0 : k0 ≤ 4000000000000000000) :
    Calls Tryz.prog 12 #[.pointer (some ⟨sb, 0, none⟩)] w (Took sb k0 10 isEle w) := by
  have hG0 : PvS w sb [] k0 w := GS.start hs
  have hsb := hs.lt
  have hG1 := hG0.new (pCs 0 ⟨#[]⟩) 39
  have FIN := Lib.hid (fun (k : Int) (s : ByteArray) (n : Int) (wx : World) (h : PvS w sb [(w.heap.size, pCs 0 ⟨#[]⟩, 39)] n wx) => show (wx.cell? ⟨w.heap.size, 0, none⟩ = some (.int .i64 0) ∧ wx.cell? ⟨w.heap.size, 1, none⟩ = some (.string ⟨#[]⟩)) ∧ (wx.frozen? ⟨w.heap.size, 0, none⟩ = false ∧ wx.frozen? ⟨w.heap.size, 1, none⟩ = false) ∧ PvS w sb [(w.heap.size, pCs k s, 39)] n ((wx.setCell ⟨w.heap.size, 0, none⟩ (.int .i64 k)).setCell ⟨w.heap.size, 1, none⟩ (.string s)) by
    obtain ⟨y, f⟩ := h.cell (p := (w.heap.size, pCs 0 ⟨#[]⟩, 39)) (by simp)
    refine ⟨⟨y 0, y 1⟩, ⟨f 0, f 1⟩, ?_⟩
    exact (h.set (i := 0) (fun h => h) (.int .i64 k) (by simp)).set (i := 1) (fun h => h) (.string s) (by simp))
  clear hs hG0
  go_enter Tryz.func12, Tryz.ntmps12
  go_upto_region 1 with (fail)
  generalize hW : w.alloc (.cells #[.int .i64 0, .string ⟨#[]⟩] 39) = w1
  have G1 := Lib.hid (show PvS w sb [(w.heap.size, pCs 0 ⟨#[]⟩, 39)] k0 w1 by rw [← hW]; exact hG1)
  clear hG1 hW
  go_wp2_with fail
  refine (flip_c sb k0 12 w1 G1.out.str (by omega) (by decide) (by decide)).mono ?_
  rintro e w2 ⟨v2, n2, rfl, ⟨b2, rfl⟩, hn2, hs2, hg2⟩
  have G2 := Lib.hid (G1.out.turn hg2 hs2)
  clear hs2 hg2 G1
  cases b2 with
  | true =>
    go_wp2_with fail
    refine (range_c sb n2 0 12 w2 G2.out.str (by omega) (by omega) (by omega) (by omega)).mono ?_
    rintro e w3 ⟨v3, n3, rfl, ⟨y3, ⟨hy0, hy1⟩, rfl⟩, hn3, hs3, hg3⟩
    have G3 := Lib.hid (G2.out.turn hg3 hs3)
    clear hs3 hg3 G2
    go_wp2_with fail
    refine (Tryz.strings_Repeat ⟨#[110]⟩ 40 w3 (by decide) (by decide)).mono ?_
    rintro e w4 ⟨rfl, hb⟩
    have G4 := Lib.hid (G3.out.below hb)
    have hr1 := rep_sz ⟨#[110]⟩ 40 60 (by decide)
    generalize (⟨(Lib.repeatL (⟨#[110]⟩ : ByteArray).data.toList 40).toArray⟩ : ByteArray) = r1 at *
    clear hb G3
    go_wp2_with fail
    refine (Tryz.strings_Repeat ⟨#[110]⟩ 41 w4 (by decide) (by decide)).mono ?_
    rintro e w5 ⟨rfl, hb⟩
    have G5 := Lib.hid (G4.out.below hb)
    have hr2 := rep_sz ⟨#[110]⟩ 41 60 (by decide)
    generalize (⟨(Lib.repeatL (⟨#[110]⟩ : ByteArray).data.toList 41).toArray⟩ : ByteArray) = r2 at *
    clear hb G4
    go_wp2_with fail
    refine (oneL w5 [⟨#[]⟩, ⟨#[71, 117, 110, 115]⟩, ⟨#[32, 97]⟩, ⟨#[97, 32, 32, 98]⟩, ⟨#[97, 110, 110]⟩, r1, r2] _ _ _ _ rfl rfl (by simp) (by simp) G5.out.str (by omega)).mono ?_
    rintro e wA ⟨vA, nA, rfl, ⟨xA, hxA, rfl⟩, hnA, hsA, hgA⟩
    have hxz : xA.size ≤ 60 := by
      simp only [List.mem_cons, List.not_mem_nil, or_false] at hxA
      rcases hxA with rfl | rfl | rfl | rfl | rfl | rfl | rfl <;> first | assumption | decide
    have GA := Lib.hid ((G5.out.alloc _).turn hgA hsA)
    clear hsA hgA hxA hr1 hr2 G5
    obtain ⟨⟨d0, d1⟩, ⟨f0, f1⟩, hF⟩ := FIN.out y3 xA _ _ GA.out
    have HF := Lib.hid hF
    clear hF
    go_wp2
    refine ⟨rfl, .agg (pCs y3 xA), (by rw [results_cell1 rfl]; go_simp; rfl), ?_⟩
    exact eleFin HF.out (by omega) (by omega) hxz (by omega)
  | false =>
    go_wp2_with fail
    refine (flip_c sb n2 3 w2 G2.out.str (by omega) (by decide) (by decide)).mono ?_
    rintro e w3 ⟨v3, n3, rfl, ⟨b3, rfl⟩, hn3, hs3, hg3⟩
    have G3 := Lib.hid (G2.out.turn hg3 hs3)
    clear hs3 hg3 G2
    cases b3 with
    | true =>
      go_wp2_with fail
      refine (Names_c _).mono ?_
      rintro e w4 ⟨rfl, rfl⟩
      go_wp2_with fail
      refine (oneL w3 nameList _ _ _ _ rfl rfl (by decide) (by decide) G3.out.str (by omega)).mono ?_
      rintro e wA ⟨vA, nA, rfl, ⟨xA, hxA, rfl⟩, hnA, hsA, hgA⟩
      have hxz : xA.size ≤ 60 := Nat.le_trans (oneOf (n := 10) (by decide +kernel) hxA) (by decide)
      have GA := Lib.hid ((G3.out.alloc _).turn hgA hsA)
      clear hsA hgA hxA G3
      obtain ⟨⟨d0, d1⟩, ⟨f0, f1⟩, hF⟩ := FIN.out 11 xA _ _ GA.out
      have HF := Lib.hid hF
      clear hF
      go_wp2
      refine ⟨rfl, .agg (pCs 11 xA), (by rw [results_cell1 rfl]; go_simp; rfl), ?_⟩
      exact eleFin HF.out (by omega) (by omega) hxz (by omega)
    | false =>
      go_wp2_with fail
      refine (pickL w3 [1, 2, 2, 3, 6, 10] _ _ _ _ rfl rfl (by decide) (by decide) G3.out.str (by omega)).mono ?_
      rintro e w4 ⟨v4, n4, rfl, ⟨y, hy, rfl⟩, hn4, hs4, hg4⟩
      have hyb : 1 ≤ y ∧ y ≤ 12 := by simp at hy; omega
      have G4 := Lib.hid ((G3.out.alloc _).turn hg4 hs4)
      clear hs4 hg4 hy G3
      go_wp2_with fail
      refine (oneL w4 [⟨#[103, 117, 110, 115]⟩, ⟨#[114, 101, 100, 32, 99, 97, 114]⟩, ⟨#[49, 50]⟩] _ _ _ _ rfl rfl (by decide) (by decide) G4.out.str (by omega)).mono ?_
      rintro e wA ⟨vA, nA, rfl, ⟨xA, hxA, rfl⟩, hnA, hsA, hgA⟩
      have hxz : xA.size ≤ 60 := Nat.le_trans (oneOf (n := 10) (by decide +kernel) hxA) (by decide)
      have GA := Lib.hid ((G4.out.alloc _).turn hgA hsA)
      clear hsA hgA hxA G4
      obtain ⟨⟨d0, d1⟩, ⟨f0, f1⟩, hF⟩ := FIN.out y xA _ _ GA.out
      have HF := Lib.hid hF
      clear hF
      go_wp2
      refine ⟨rfl, .agg (pCs y xA), (by rw [results_cell1 rfl]; go_simp; rfl), ?_⟩
      exact eleFin HF.out (by omega) (by omega) hxz (by omega)
end Go.Proofs.YtojgjejbhcjifaaGreatDoor

