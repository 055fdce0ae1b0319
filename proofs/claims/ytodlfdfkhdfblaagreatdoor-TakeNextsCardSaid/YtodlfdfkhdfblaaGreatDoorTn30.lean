/- Texts packed: LawTakeNexts. -/
import Derived.Test.YtodlfdfkhdfblaaGreatDoorRows
import Derived.Test.YtodlfdfkhdfblaaGreatDoorTn16
import Derived.Test.YtodlfdfkhdfblaaGreatDoorTn27
import Derived.Test.YtodlfdfkhdfblaaGreatDoorTn29
import Derived.Test.YtodlfdfkhdfblaaGreatDoorTn21
import Derived.Test.YtodlfdfkhdfblaaGreatDoorTn25
import Derived.Test.YtodlfdfkhdfblaaGreatDoorTn02
import Derived.Deep.DeepCutAuto
/- The law TakeNexts walked: for every list of numbers it returns true and leaves what was there. -/
namespace Go.Proofs.YtodlfdfkhdfblaaGreatDoor
set_option linter.unusedVariables false
open Go.RowKit

/-- The takes of the law, wherever they lie but in the stream's block. -/
structure TkQ (sb : Nat) (w : World) (tl : List (Tk × Value)) (v : Value) : Prop where
  sli : Sli tvR w (fun q => q < w.heap.size ∧ q ≠ sb) tl v
  out : ∀ x ∈ tl, ∃ A n c, x.2 = .slice A n c
  len : tl.length ≤ 100
  bd : ∀ x ∈ tl, x.1.scene.size ≤ 1000 ∧ x.1.setup.size ≤ 1000 ∧ -1000 ≤ x.1.number ∧ x.1.number ≤ 10000
theorem TkQ.tkl {sb : Nat} {w : World} {tl : List (Tk × Value)} {v : Value} (h : TkQ sb w tl v) : TkL w (fun q => q < w.heap.size ∧ q ≠ sb) tl v :=
  ⟨h.sli, h.out, fun b hb => hb.1, by have := h.len; omega, fun x hx => (h.bd x hx).2⟩
theorem TkQ.turn {sb : Nat} {w w' : World} {tl : List (Tk × Value)} {v : Value} (h : TkQ sb w tl v) (hg : w.grownBy w' (some sb)) : TkQ sb w' tl v :=
  ⟨(h.sli.keep fun q hq => hg.block q hq.1 (by simp; exact hq.2)).more fun q hq => ⟨Nat.lt_of_lt_of_le hq.1 hg.size, hq.2⟩, h.out, h.len, h.bd⟩
theorem TkQ.below {sb : Nat} {w w' : World} {tl : List (Tk × Value)} {v : Value} (h : TkQ sb w tl v) (hb : Below w.heap.size w w') : TkQ sb w' tl v :=
  ⟨(h.sli.below hb fun q hq => hq.1).more fun q hq => ⟨Nat.lt_of_lt_of_le hq.1 hb.size, hq.2⟩, h.out, h.len, h.bd⟩
theorem slateF_bad {sc su : ByteArray} : slateF sc su = if numB sc = true ∧ setupB su = true then 0 else 5 := by
  unfold slateF
  cases numB sc <;> cases setupB su <;> simp

set_option maxRecDepth 100000 in
set_option maxHeartbeats 8000000 in
theorem TakeNexts_c (A : Option Addr) (l : List Int) (c : Nat) (w : World) (hr : Rs w 0 w.heap.size 1 intc A l) (hl : l.length ≤ 17592186044416) (ho : ∀ x ∈ l, okI x) (he : ErrsLaid w) (hp : PowLaid w) :
    Calls Tryz.prog 4 #[.slice A l.length c] w fun e w' => e = .returned (.bool true) ∧ Below w.heap.size w w' := by
  have S0 := Lib.hid (strNew w A l c hr hl ho)
  have HL := Lib.hid (LaidS.start he hp)
  have L0 := Lib.hid (HL.out.alloc (Nat.le_refl _) (.cells #[.slice A l.length c, .int .i64 0] 25))
  clear hr ho he hp
  go_enter Tryz.func4, Tryz.ntmps4
  go_wp2_with fail
  refine (Story_c w.heap.size 0 _ S0.out (by omega) L0.out).mono ?_
  rintro e w2 ⟨v2, k2, rfl, ⟨x, ls, sv, rfl, hxs, hown, hin, hbd⟩, hk2, hs2, hg2⟩
  have hz2 := hg2.size
  simp at hz2
  have S2 := Lib.hid hs2
  have G2 := Lib.hid hg2
  have O2 := Lib.hid (hown.sli (F := fun q => w.heap.size < q ∧ q < w2.heap.size) (fun q h1 h2 => ⟨by simp at h1; omega, h2⟩) (fun g hg => ⟨by have := (hown.block g hg).1; simp at this; omega, (hown.block g hg).2⟩))
  have HN2 := Lib.hid (show ∀ y ∈ ls, ∃ A c, y.2 = .slice A y.1.paras.length c from fun y hy => by
    obtain ⟨A, c, e, _⟩ := (hin y hy).form
    exact ⟨A, c, e⟩)
  have HL2 := Lib.hid (show ls.length ≤ 90 by have := hbd.2.1; rw [hxs, List.length_map] at this; exact this)
  have HB2 := Lib.hid (show ∀ y ∈ ls, sceneBd y.1 from fun y hy => hbd.2.2 _ (by rw [hxs]; exact List.mem_map_of_mem hy))
  have hk20 := hs2.nonneg
  clear hs2 hg2 hown hin hbd hxs S0 HL L0
  go_wp2_with fail
  refine (Rolls_c w.heap.size k2 _ S2.out (by omega)).mono ?_
  rintro e w1 ⟨v1, k1, rfl, hv1, hk1, hs1, hg1⟩
  obtain ⟨B, ra, rb, rc, rfl, hB, hBw, hR1, ha, hb, hc⟩ := hv1
  have hz1 := hg1.size
  have S1 := Lib.hid hs1
  have G1 := Lib.hid (gTrans G2.out hg1)
  have R1 := Lib.hid hR1
  have HA := Lib.hid (And.intro ha (And.intro hb hc))
  have O1 := Lib.hid ((O2.out.keep (fun q hq => hg1.block q hq.2 (by simp; omega))).more (G := fun q => w.heap.size < q ∧ q < w1.heap.size) (fun q hq => ⟨hq.1, by omega⟩))
  have hk10 := hs1.nonneg
  obtain ⟨AS, cS, rfl, _, _⟩ := O1.out.form
  clear hs1 hg1 hR1 ha hb hc S2 G2 O2
  rw [show xCs x.title (.slice AS ls.length cS) = #[.string x.title, .slice AS ls.length cS] from rfl]
  go_upto_region 3 with (fail)
  have hX := heap_alloc_new w1 (.cells #[.string x.title, .slice AS ls.length cS] 32)
  have S3 := Lib.hid (S1.out.alloc (.cells #[.string x.title, .slice AS ls.length cS] 32))
  have G3 := Lib.hid (gAlloc G1.out (.cells #[.string x.title, .slice AS ls.length cS] 32))
  have R3 := Lib.hid (R1.out.alloc (.cells #[.string x.title, .slice AS ls.length cS] 32))
  have O3 := Lib.hid (O1.out.keep (fun q hq => Below.heap_alloc w1 (.cells #[.string x.title, .slice AS ls.length cS] 32) q hq.2))
  have hz3 : w1.heap.size < (w1.alloc (.cells #[.string x.title, .slice AS ls.length cS] 32)).heap.size := by simp
  generalize w1.alloc (.cells #[.string x.title, .slice AS ls.length cS] 32) = w3 at *
  have hXw : w.heap.size < w1.heap.size := by omega
  generalize w1.heap.size = X at *
  have HX := Lib.hid (fun (W : World) (hg : w3.grownBy W (some w.heap.size)) => show W.cell? ⟨X, 0, none⟩ = some (.string x.title) ∧ W.cell? ⟨X, 1, none⟩ = some (.slice AS ls.length cS) from
    ⟨(World.cell?_of_block (a := ⟨X, 0, none⟩) (hg.block X hz3 (by simp; omega))).trans ((str_cells hX).1 0), (World.cell?_of_block (a := ⟨X, 1, none⟩) (hg.block X hz3 (by simp; omega))).trans ((str_cells hX).1 1)⟩)
  have HO := Lib.hid (fun (W : World) (hg : w3.grownBy W (some w.heap.size)) => O3.out.keep (fun q hq => hg.block q (by have := hq.2; omega) (by have := hq.1; simp; omega)))
  obtain ⟨x0, x1⟩ := HX.out w3 (gRefl _ _)
  clear hX S1 G1 R1 O1
  go_wp2_with fail
  refine (Takes_c w.heap.size B k1 x.title ls (.slice AS ls.length cS) ra rb rc _ S3.out (by omega) O3.out (fun q hq => ⟨by have := hq.2; omega, by have := hq.1; omega⟩) HL2.out HN2.out HB2.out R3.out HA.out.1 HA.out.2.1 HA.out.2.2 (by omega)).mono ?_
  rintro e w4 ⟨tv, k4, rfl, ⟨tl, hto, hti, htb, htl⟩, hk4, hs4, hg4⟩
  have hz4 := hg4.size
  have S4 := Lib.hid hs4
  have G4 := Lib.hid (gTrans G3.out hg4)
  have X4 := Lib.hid hg4
  have T4 := Lib.hid (show TkQ w.heap.size w4 tl tv from ⟨hto.sli (fun q h1 h2 => ⟨h2, by omega⟩) (fun g hg => ⟨(hto.block g hg).2, by have := (hto.block g hg).1; omega⟩), fun y hy => by
      obtain ⟨A, c, e, _⟩ := (hti y hy).form
      exact ⟨A, _, c, e⟩, by omega, fun y hy => by
      have h := htb y hy
      unfold tkB at h
      omega⟩)
  have C4 := Lib.hid (show ∀ y ∈ tl, Sli covR w4 (fun q => q < w4.heap.size ∧ q ≠ w.heap.size) y.1.covers y.2 from fun y hy => (hti y hy).more fun q hq => by
    rcases hq with hq | hq
    · exact hq.elim
    · exact ⟨hq.2.1, by have := hq.1; omega⟩)
  have B4 := Lib.hid (show ∀ y ∈ tl, tkB 300000000 y.1 from htb)
  have hk40 := hs4.nonneg
  clear hs4 hg4 hto hti htb S3 G3 R3 x0 x1
  obtain ⟨AT, cT, rfl, _, _⟩ := T4.out.sli.form
  obtain ⟨L4, hL4⟩ : ∃ q, tl.length = q := ⟨_, rfl⟩
  have HL4 := Lib.hid hL4
  rw [hL4] at T4 htl ⊢
  clear hL4
  go_upto_region 4 with (fail)
  go_cut [32] (fun s32 wx => ∃ (bb : Bool) (n : Int), s32 = .bool bb ∧ (bb = true → 0 < L4) ∧ n ≤ k4 + 1 ∧ Hid (Str wx w.heap.size n) ∧ Hid (w4.grownBy wx (some w.heap.size)))
  case first =>
    go_wp2_with fail
    refine (flip_c w.heap.size k4 3 _ S4.out (by omega) (by omega) (by omega)).mono ?_
    rintro e w5 ⟨v5, k5, rfl, ⟨b5, rfl⟩, hk5, hs5, hg5⟩
    have HH := Lib.hid (And.intro hs5 hg5)
    clear hs5 hg5
    cases b5 with
    | false =>
      go_wp2
      go_meet
      exact ⟨false, k5, rfl, (fun h => by cases h), by omega, HH.out.1, HH.out.2⟩
    | true =>
      by_cases h0 : L4 = 0
      · subst h0
        go_wp2
        go_meet
        exact ⟨false, k5, by first | rfl | simp, (fun h => by cases h), by omega, HH.out.1, HH.out.2⟩
      · have hp : (0 : Int) < (L4 : Int) := by omega
        go_wp2
        go_meet
        exact ⟨true, k5, by first | rfl | (simp; done) | (simp; omega), (fun _ => by omega), by omega, HH.out.1, HH.out.2⟩
  case rest =>
    clear S4
    obtain ⟨b5, k5, rfl, hb5, hk5, S5, G5⟩ := hcut
    have hz5 := G5.out.size
    have hk50 := S5.out.nonneg
    go_upto_if 32 with (fail)
    go_cut [6] (fun s6 wx => ∃ (tl : List (Tk × Value)) (n : Int), n ≤ k5 + 20 ∧ Hid (TkQ w.heap.size wx tl s6) ∧ Hid (Str wx w.heap.size n) ∧ Hid (w4.grownBy wx (some w.heap.size)))
    case first =>
      cases b5 with
      | false =>
        go_wp2
        go_meet
        exact ⟨tl, k5, by omega, T4.out.turn G5.out, S5.out, G5.out⟩
      | true =>
        have hlp : 0 < L4 := hb5 rfl
        have T5 := Lib.hid (T4.out.turn G5.out)
        have C5 := Lib.hid (show ∀ y ∈ tl, Sli covR wc (fun q => q < wc.heap.size ∧ q ≠ w.heap.size) y.1.covers y.2 from fun y hy => ((C4.out y hy).keep fun q hq => G5.out.block q hq.1 (by simp; exact hq.2)).more fun q hq => ⟨by have := hq.1; omega, hq.2⟩)
        go_wp2_with fail
        refine (SpoiledTakes_c (F := fun q => q < wc.heap.size ∧ q ≠ w.heap.size) 300000000 w.heap.size k5 tl (.slice AT L4 cT) _ S5.out (by omega) T5.out.sli C5.out (fun q hq => hq) (by rw [HL4.out]; exact hlp) (by rw [HL4.out]; omega) B4.out (by omega) (by omega)).mono ?_
        rintro e w6 ⟨v6, k6, rfl, ⟨l6, hown6, hin6, hb6, hl6, hp6⟩, hk6, hs6, hg6⟩
        have HL6 := Lib.hid (show l6.length ≤ 50 by rw [HL4.out] at hl6; omega)
        have hz6 := hg6.size
        have S6 := Lib.hid hs6
        have G6 := Lib.hid (gTrans G5.out hg6)
        have O6 := Lib.hid hown6
        have I6 := Lib.hid (show ∀ y ∈ l6, ∃ A n c, y.2 = .slice A n c from fun y hy => by
          obtain ⟨A, c, e, _⟩ := (hin6 y hy).form
          exact ⟨A, _, c, e⟩)
        have B6 := Lib.hid (show ∀ x ∈ l6, x.1.scene.size ≤ 1000 ∧ x.1.setup.size ≤ 1000 ∧ -1000 ≤ x.1.number ∧ x.1.number ≤ 10000 from fun y hy => by
          have h := hb6 y hy
          unfold tkB at h
          omega)
        clear hs6 hg6 hown6 hin6 hb6 hl6
        obtain ⟨g6, cap6, rfl, hg61, hg62⟩ := O6.out.some_ hp6
        go_wp2_with fail
        refine (OneL w6 [⟨#[90, 90]⟩, ⟨#[90]⟩, ⟨#[90, 89]⟩, ⟨#[73]⟩] _ _ 4 _ rfl rfl (by decide) (by decide) S6.out (by omega)).mono ?_
        rintro e w7 ⟨v7, k7, rfl, ⟨s7, hs7, rfl⟩, hk7, hst7, hg7⟩
        have hz7 := hg7.size
        simp at hz7
        have S7 := Lib.hid hst7
        have hg67 := gTrans (gAlloc (gRefl w6 w.heap.size) _) hg7
        have G7 := Lib.hid (gTrans G6.out hg67)
        have O7 := Lib.hid (O6.out.grown hg67 (fun k hk => by injection hk with hk; omega) (.inr (fun e => by have e2 : some g6 = some w.heap.size := e; injection e2 with e2; omega)))
        have hs1000 : s7.size ≤ 1000 := by
          simp at hs7
          rcases hs7 with rfl | rfl | rfl | rfl <;> decide
        clear hst7 hg7 hg67 hs7 O6
        obtain ⟨d1, f1⟩ := O7.out.cellAt 0 hp6 1 (by decide)
        have d1' : w7.cell? ⟨g6, 1, none⟩ = some (.string (l6[0]'hp6).1.setup) := d1
        have f1' : w7.frozen? ⟨g6, 1, none⟩ = false := f1
        have hll6 : l6.length ≤ 50 := HL6.out
        have hpi : (0 : Int) < (l6.length : Int) := by omega
        have OM := Lib.hid (O7.out.modify (fun y => ({ y.1 with setup := s7 }, y.2)) 0 1 (.string s7) (fun _ => rfl) (by decide) hp6)
        have SM := Lib.hid (S7.out.setCell (p := ⟨g6, 1, none⟩) (by show w.heap.size < g6; omega) (.string s7))
        have GM := Lib.hid (gSet G7.out (p := ⟨g6, 1, none⟩) (by show w4.heap.size ≤ g6; omega) (.string s7))
        have HIM := Lib.hid (show ∀ y ∈ l6.modify 0 (fun y => ({ y.1 with setup := s7 }, y.2)), (∃ A n c, y.2 = .slice A n c) ∧ (y.1.scene.size ≤ 1000 ∧ y.1.setup.size ≤ 1000 ∧ -1000 ≤ y.1.number ∧ y.1.number ≤ 10000) from fun y hy => by
          rcases mem_modify' hy with hy | ⟨z, hz, rfl⟩
          · exact ⟨I6.out y hy, B6.out y hy⟩
          · have hm : z ∈ l6 := List.mem_iff_getElem?.2 ⟨0, hz⟩
            have h := B6.out z hm
            exact ⟨I6.out z hm, h.1, hs1000, h.2.2⟩)
        clear d1 f1 O7 S7 G7
        go_wp2
        go_meet
        exact ⟨_, k7, by omega, ⟨OM.out.sli (fun q h1 h2 => ⟨h2, by omega⟩) (fun g hg => ⟨(OM.out.block g hg).2, by have := (OM.out.block g hg).1; omega⟩), fun y hy => (HIM.out y hy).1, by rw [List.length_modify]; omega, fun y hy => (HIM.out y hy).2⟩, SM.out, GM.out⟩
    case rest =>
      clear T4 C4 B4 S5 G5 HL4 HN2 hb5
      obtain ⟨tl, n7, hn7, T7, S7, Y7⟩ := hcut
      have G7 := Lib.hid (gTrans G4.out Y7.out)
      have hn70 := S7.out.nonneg
      have hz7 := Y7.out.size
      obtain ⟨x0, x1⟩ := HX.out wc (gTrans X4.out Y7.out)
      have hXc : X < wc.heap.size := by omega
      go_upto_region 7 with (fail)
      go_wp2_with fail
      refine (Of_c (F := fun q => w.heap.size < q ∧ q < X) w.heap.size n7 x.title ls (.slice AS ls.length cS) _ S7.out (by omega) (HO.out wc (gTrans X4.out Y7.out)) (fun q hq => ⟨by have := hq.2; omega, by have := hq.1; omega⟩) HL2.out HB2.out).mono ?_
      rintro e w8 ⟨v8, k8, rfl, ⟨no8, hno8, rfl⟩, hk8, hs8, hg8⟩
      have S8 := Lib.hid hs8
      have G8 := Lib.hid (gTrans G7.out hg8)
      have T8 := Lib.hid (T7.out.turn hg8)
      clear hs8 hg8 S7 G7 T7 x0 x1
      go_wp2_with fail
      refine (Setup_c w.heap.size k8 _ S8.out (by omega)).mono ?_
      rintro e w9 ⟨v9, k9, rfl, ⟨su9, hsu9, rfl⟩, hk9, hs9, hg9⟩
      have S9 := Lib.hid hs9
      have G9 := Lib.hid (gTrans G8.out hg9)
      have T9 := Lib.hid (T8.out.turn hg9)
      have hk90 := hs9.nonneg
      clear hs9 hg9 S8 G8 T8
      obtain ⟨A9, c9, hv9, _, _⟩ := T9.out.sli.form
      subst hv9
      obtain ⟨L9, hL9⟩ : ∃ q, tl.length = q := ⟨_, rfl⟩
      have HL9 := Lib.hid hL9
      rw [hL9] at T9 ⊢
      have hl9 : L9 ≤ 100 := by rw [← hL9]; exact T9.out.len
      clear hL9
      have hno : no8.size ≤ 1000 := hno8
      have hsu : su9.size ≤ 1000 := by omega
      clear hno8 hsu9
      go_upto_region 8 with (fail)
      go_cut [54] (fun s54 wx => ∃ (bb : Bool) (n : Int), s54 = .bool bb ∧ (bb = true → 0 < L9) ∧ n ≤ k9 + 1 ∧ Hid (Str wx w.heap.size n) ∧ Hid (w9.grownBy wx (some w.heap.size)))
      case first =>
        rcases Nat.eq_zero_or_pos L9 with rfl | hp9
        · go_wp2
          go_meet
          exact ⟨false, k9, by first | rfl | simp, (fun h => by cases h), by omega, S9.out, gRefl _ _⟩
        · have hp : (0 : Int) < (L9 : Int) := by omega
          go_wp2_with fail
          refine (flip_c w.heap.size k9 3 _ S9.out (by omega) (by omega) (by omega)).mono ?_
          rintro e w10 ⟨v10, k10, rfl, ⟨b10, rfl⟩, hk10, hs10, hg10⟩
          have HH := Lib.hid (And.intro hs10 hg10)
          clear hs10 hg10
          go_wp2
          go_meet
          exact ⟨!b10, k10, by first | rfl | simp, (fun _ => hp9), by omega, HH.out.1, HH.out.2⟩
      case rest =>
        clear S9
        obtain ⟨b10, k10, rfl, hb10, hk10, S10, X10⟩ := hcut
        have T10 := Lib.hid (T9.out.turn X10.out)
        have G10 := Lib.hid (gTrans G9.out X10.out)
        clear X10 T9 G9
        go_upto_if 54 with (fail)
        go_cut [7, 8] (fun s7 s8 wx => ∃ (no su : ByteArray), s7 = .string no ∧ s8 = .string su ∧ no.size ≤ 1000 ∧ su.size ≤ 1000 ∧ wc.heap.size ≤ wx.heap.size ∧ Hid (Below wc.heap.size wc wx))
        case first =>
          cases b10 with
          | false =>
            go_wp2
            go_meet
            exact ⟨no8, su9, rfl, rfl, hno, hsu, Nat.le_refl _, Below.refl _ _⟩
          | true =>
            have hp9 : 0 < L9 := hb10 rfl
            have hpi : (0 : Int) < (L9 : Int) := by omega
            obtain ⟨b5, off5, rfl, hfb5, t0, t1, _, _, _, _, _, _, _⟩ := tkAt T10.out.sli 0 (by rw [HL9.out]; exact hp9)
            have hbd := T10.out.bd _ (List.getElem_mem (show 0 < tl.length by rw [HL9.out]; exact hp9))
            generalize (tl[0]'(by rw [HL9.out]; exact hp9)).1 = tk at *
            have hq1 := hbd.1
            have hq2 := hbd.2.1
            clear hbd
            rw [show off5 + 0 * 9 = off5 by omega] at t0 t1
            go_wp2
            go_region
            go_wp2
            go_meet
            exact ⟨tk.scene, tk.setup, rfl, rfl, hq1, hq2, Nat.le_refl _, (Below.refl _ _).drew⟩
        case rest =>
          clear hno hsu
          obtain ⟨no, su, rfl, rfl, hno, hsu, hzc, X11⟩ := hcut
          have G20 := Lib.hid (gBelow G10.out X11.out)
          have T20 := Lib.hid (T10.out.below X11.out)
          generalize wc = w20 at *
          clear T10 G10 X11 HX HO X4 G4 Y7 HB2 HL2 HA S10
          have HN := Lib.hid (show nsE true no (tl.map (·.1)) = nextSE no (tl.map (·.1)) from if_pos rfl)
          have HN2 := Lib.hid (show nsV true no (tl.map (·.1)) = nextS no (tl.map (·.1)) from if_pos rfl)
          have HC21 := Lib.hid (NextNumber_c tl (.slice A9 L9 c9) no su w20 T20.out.tkl (by omega) (by omega))
          go_wp2_with fail
          refine HC21.out.mono ?_
          rintro e w21 ⟨rfl, hb21⟩
          have G21 := Lib.hid (gBelow G20.out hb21)
          have T21 := Lib.hid (T20.out.below hb21)
          clear hb21 HC21 G20 T20
          rw [slateF_bad]
          cases hn : numB no with
          | false =>
            rw [if_neg (by simp)]
            rw [show ∀ top, nnE 5 top = 5 from fun top => if_neg (by decide)]
            have HC22 := Lib.hid (NumberOf_c no w21 (by omega))
            go_wp2_with fail
            refine HC22.out.mono ?_
            rintro e w22 ⟨rfl, hb22⟩
            have G22 := Lib.hid (gBelow G21.out hb22)
            have T22 := Lib.hid (T21.out.below hb22)
            clear hb22 HC22 G21 T21
            rw [hn]
            have HC23 := Lib.hid (NextSetup_c tl (.slice A9 L9 c9) no w22 T22.out.tkl (by omega))
            go_wp2_with fail
            refine HC23.out.mono ?_
            rintro e w23 ⟨rfl, hb23⟩
            have G23 := Lib.hid (gBelow G22.out hb23)
            have T23 := Lib.hid (T22.out.below hb23)
            clear hb23 HC23 G22 T22
            rw [hn, show nsE false no (tl.map (·.1)) = 5 from if_neg (by decide)]
            have HC24 := Lib.hid (NumberOf_c no w23 (by omega))
            go_wp2_with fail
            refine HC24.out.mono ?_
            rintro e w24 ⟨rfl, hb24⟩
            have G24 := Lib.hid (gBelow G23.out hb24)
            have T24 := Lib.hid (T23.out.below hb24)
            clear hb24 HC24 G23 T23
            rw [hn]
            go_wp2_with fail
            refine (takes_c _).mono ?_
            rintro e w25 ⟨rfl, hb25⟩
            have G25 := Lib.hid (gBelow G24.out hb25)
            clear hb25 G24 T24
            go_wp2
            go_ret
            exact ⟨ret_bool (by simp), gEnd G25.out⟩
          | true =>
            cases hsu2 : setupB su with
            | false =>
              rw [if_neg (by simp)]
              rw [show ∀ top, nnE 5 top = 5 from fun top => if_neg (by decide)]
              have HC22 := Lib.hid (NumberOf_c no w21 (by omega))
              go_wp2_with fail
              refine HC22.out.mono ?_
              rintro e w22 ⟨rfl, hb22⟩
              have G22 := Lib.hid (gBelow G21.out hb22)
              have T22 := Lib.hid (T21.out.below hb22)
              clear hb22 HC22 G21 T21
              rw [hn]
              have HC23 := Lib.hid (SetupOf_c su w22 (by omega))
              go_wp2_with fail
              refine HC23.out.mono ?_
              rintro e w23 ⟨rfl, hb23⟩
              have G23 := Lib.hid (gBelow G22.out hb23)
              have T23 := Lib.hid (T22.out.below hb23)
              clear hb23 HC23 G22 T22
              rw [hsu2]
              have HC24 := Lib.hid (NextSetup_c tl (.slice A9 L9 c9) no w23 T23.out.tkl (by omega))
              go_wp2_with fail
              refine HC24.out.mono ?_
              rintro e w24 ⟨rfl, hb24⟩
              have G24 := Lib.hid (gBelow G23.out hb24)
              have T24 := Lib.hid (T23.out.below hb24)
              clear hb24 HC24 G23 T23
              rw [hn, HN.out, HN2.out]
              have HC25 := Lib.hid (NumberOf_c no w24 (by omega))
              go_wp2_with fail
              refine HC25.out.mono ?_
              rintro e w25 ⟨rfl, hb25⟩
              have G25 := Lib.hid (gBelow G24.out hb25)
              have T25 := Lib.hid (T24.out.below hb25)
              clear hb25 HC25 G24 T24
              rw [hn]
              have HC26 := Lib.hid (NextSetupOf_c tl (.slice A9 L9 c9) no w25 T25.out.tkl)
              go_wp2_with fail
              refine HC26.out.mono ?_
              rintro e w26 ⟨rfl, hb26⟩
              have G26 := Lib.hid (gBelow G25.out hb26)
              have T26 := Lib.hid (T25.out.below hb26)
              clear hb26 HC26 G25 T25
              go_wp2_with fail
              refine (takes_c _).mono ?_
              rintro e w27 ⟨rfl, hb27⟩
              have G27 := Lib.hid (gBelow G26.out hb27)
              clear hb27 G26 T26
              by_cases hkk : nextK no (tl.map (·.1)) < 601
              · have e1 : nextSE no (tl.map (·.1)) = 0 := if_pos hkk
                have e2 : decide (nextK no (tl.map (·.1)) < 601) = true := decide_eq_true hkk
                rw [e1, e2]
                clear hkk
                go_wp2
                go_ret
                exact ⟨ret_bool (by simp), gEnd G27.out⟩
              · have e1 : nextSE no (tl.map (·.1)) = 11 := if_neg hkk
                have e2 : decide (nextK no (tl.map (·.1)) < 601) = false := decide_eq_false hkk
                rw [e1, e2]
                clear hkk
                go_wp2
                go_ret
                exact ⟨ret_bool (by simp), gEnd G27.out⟩
            | true =>
              rw [if_pos ⟨rfl, rfl⟩]
              have HTT := Lib.hid (nextN_top no su (tl.map (·.1)))
              have HC22 := Lib.hid (NumberOf_c no w21 (by omega))
              go_wp2_with fail
              refine HC22.out.mono ?_
              rintro e w22 ⟨rfl, hb22⟩
              have G22 := Lib.hid (gBelow G21.out hb22)
              have T22 := Lib.hid (T21.out.below hb22)
              clear hb22 HC22 G21 T21
              rw [hn]
              have HC23 := Lib.hid (SetupOf_c su w22 (by omega))
              go_wp2_with fail
              refine HC23.out.mono ?_
              rintro e w23 ⟨rfl, hb23⟩
              have G23 := Lib.hid (gBelow G22.out hb23)
              have T23 := Lib.hid (T22.out.below hb23)
              clear hb23 HC23 G22 T22
              rw [hsu2]
              by_cases h99 : 99 ≤ topN no su (tl.map (·.1))
              · have e1 : nnE 0 (topN no su (tl.map (·.1))) = 11 := by rw [nnE, if_pos rfl, if_pos h99]
                have e2 : nextN no su (tl.map (·.1)) = 100 := by rw [HTT.out]; omega
                rw [e1]
                clear h99
                have HC24 := Lib.hid (NextNumberOf_c tl (.slice A9 L9 c9) no su w23 T23.out.tkl)
                go_wp2_with fail
                refine HC24.out.mono ?_
                rintro e w24 ⟨rfl, hb24⟩
                have G24 := Lib.hid (gBelow G23.out hb24)
                have T24 := Lib.hid (T23.out.below hb24)
                clear hb24 HC24 G23 T23
                rw [e2]
                have HC25 := Lib.hid (NextSetup_c tl (.slice A9 L9 c9) no w24 T24.out.tkl (by omega))
                go_wp2_with fail
                refine HC25.out.mono ?_
                rintro e w25 ⟨rfl, hb25⟩
                have G25 := Lib.hid (gBelow G24.out hb25)
                have T25 := Lib.hid (T24.out.below hb25)
                clear hb25 HC25 G24 T24
                rw [hn, HN.out, HN2.out]
                have HC26 := Lib.hid (NumberOf_c no w25 (by omega))
                go_wp2_with fail
                refine HC26.out.mono ?_
                rintro e w26 ⟨rfl, hb26⟩
                have G26 := Lib.hid (gBelow G25.out hb26)
                have T26 := Lib.hid (T25.out.below hb26)
                clear hb26 HC26 G25 T25
                rw [hn]
                have HC27 := Lib.hid (NextSetupOf_c tl (.slice A9 L9 c9) no w26 T26.out.tkl)
                go_wp2_with fail
                refine HC27.out.mono ?_
                rintro e w27 ⟨rfl, hb27⟩
                have G27 := Lib.hid (gBelow G26.out hb27)
                have T27 := Lib.hid (T26.out.below hb27)
                clear hb27 HC27 G26 T26
                go_wp2_with fail
                refine (takes_c _).mono ?_
                rintro e w28 ⟨rfl, hb28⟩
                have G28 := Lib.hid (gBelow G27.out hb28)
                clear hb28 G27 T27
                by_cases hkk : nextK no (tl.map (·.1)) < 601
                · have e1 : nextSE no (tl.map (·.1)) = 0 := if_pos hkk
                  have e2 : decide (nextK no (tl.map (·.1)) < 601) = true := decide_eq_true hkk
                  rw [e1, e2]
                  clear hkk
                  go_wp2
                  go_ret
                  exact ⟨ret_bool (by simp), gEnd G28.out⟩
                · have e1 : nextSE no (tl.map (·.1)) = 11 := if_neg hkk
                  have e2 : decide (nextK no (tl.map (·.1)) < 601) = false := decide_eq_false hkk
                  rw [e1, e2]
                  clear hkk
                  go_wp2
                  go_ret
                  exact ⟨ret_bool (by simp), gEnd G28.out⟩
              · have e1 : nnE 0 (topN no su (tl.map (·.1))) = 0 := by rw [nnE, if_pos rfl, if_neg h99]
                have e2 : nextN no su (tl.map (·.1)) = topN no su (tl.map (·.1)) + 1 := by rw [HTT.out]; omega
                have e3 : nnV 0 (topN no su (tl.map (·.1))) = topN no su (tl.map (·.1)) + 1 := by rw [nnV, if_pos rfl, if_neg h99]
                rw [e1, e3]
                obtain ⟨mm, hmm⟩ : ∃ mm, topN no su (tl.map (·.1)) + 1 = mm := ⟨_, rfl⟩
                have hm99 : ¬ (99 : Int) < mm := by omega
                rw [hmm] at e2 e3 ⊢
                clear h99 hmm e3 e1
                have HC24 := Lib.hid (NextNumberOf_c tl (.slice A9 L9 c9) no su w23 T23.out.tkl)
                go_wp2_with fail
                refine HC24.out.mono ?_
                rintro e w24 ⟨rfl, hb24⟩
                have G24 := Lib.hid (gBelow G23.out hb24)
                have T24 := Lib.hid (T23.out.below hb24)
                clear hb24 HC24 G23 T23
                rw [e2]
                have HC25 := Lib.hid (NextNumberOf_c tl (.slice A9 L9 c9) no su w24 T24.out.tkl)
                go_wp2_with fail
                refine HC25.out.mono ?_
                rintro e w25 ⟨rfl, hb25⟩
                have G25 := Lib.hid (gBelow G24.out hb25)
                have T25 := Lib.hid (T24.out.below hb25)
                clear hb25 HC25 G24 T24
                rw [e2]
                have HC26 := Lib.hid (NextSetup_c tl (.slice A9 L9 c9) no w25 T25.out.tkl (by omega))
                go_wp2_with fail
                refine HC26.out.mono ?_
                rintro e w26 ⟨rfl, hb26⟩
                have G26 := Lib.hid (gBelow G25.out hb26)
                have T26 := Lib.hid (T25.out.below hb26)
                clear hb26 HC26 G25 T25
                rw [hn, HN.out, HN2.out]
                have HC27 := Lib.hid (NumberOf_c no w26 (by omega))
                go_wp2_with fail
                refine HC27.out.mono ?_
                rintro e w27 ⟨rfl, hb27⟩
                have G27 := Lib.hid (gBelow G26.out hb27)
                have T27 := Lib.hid (T26.out.below hb27)
                clear hb27 HC27 G26 T26
                rw [hn]
                have HC28 := Lib.hid (NextSetupOf_c tl (.slice A9 L9 c9) no w27 T27.out.tkl)
                go_wp2_with fail
                refine HC28.out.mono ?_
                rintro e w28 ⟨rfl, hb28⟩
                have G28 := Lib.hid (gBelow G27.out hb28)
                have T28 := Lib.hid (T27.out.below hb28)
                clear hb28 HC28 G27 T27
                go_wp2_with fail
                refine (takes_c _).mono ?_
                rintro e w29 ⟨rfl, hb29⟩
                have G29 := Lib.hid (gBelow G28.out hb29)
                clear hb29 G28 T28
                by_cases hkk : nextK no (tl.map (·.1)) < 601
                · have e1 : nextSE no (tl.map (·.1)) = 0 := if_pos hkk
                  have e2 : decide (nextK no (tl.map (·.1)) < 601) = true := decide_eq_true hkk
                  rw [e1, e2]
                  clear hkk
                  go_wp2
                  go_ret
                  exact ⟨ret_bool (by simp), gEnd G29.out⟩
                · have e1 : nextSE no (tl.map (·.1)) = 11 := if_neg hkk
                  have e2 : decide (nextK no (tl.map (·.1)) < 601) = false := decide_eq_false hkk
                  rw [e1, e2]
                  clear hkk
                  go_wp2
                  go_ret
                  exact ⟨ret_bool (by simp), gEnd G29.out⟩
end Go.Proofs.YtodlfdfkhdfblaaGreatDoor

