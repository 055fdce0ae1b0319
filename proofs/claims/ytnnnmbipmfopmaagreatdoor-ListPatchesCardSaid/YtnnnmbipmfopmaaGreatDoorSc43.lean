/- Texts packed: LawListPatches. -/
import Derived.Test.YtnnnmbipmfopmaaGreatDoorRows
import Derived.Test.YtnnnmbipmfopmaaGreatDoorSc42
import Derived.Test.YtnnnmbipmfopmaaGreatDoorSc41
import Derived.Test.YtnnnmbipmfopmaaGreatDoorSc02
/- The law ListPatches walked: for every list of numbers it returns true and leaves what was there. -/
namespace Go.Proofs.YtnnnmbipmfopmaaGreatDoor
set_option linter.unusedVariables false
open Go.RowKit Go.Sort

/-- Lines behind a stream, to be read. -/
structure LsP (sb : Nat) (wx : World) (l : List ByteArray) (v : Value) : Prop where
  sli : Sli strR wx (fun q => sb < q ∧ q < wx.heap.size) l v
  nb : ∀ k c, v = .slice none k c → c = 0
  sz : ∀ x ∈ l, x.size ≤ 10
theorem LsP.turn {sb : Nat} {wx wy : World} {l : List ByteArray} {v : Value} (h : LsP sb wx l v) (hg : wx.grownBy wy (some sb)) : LsP sb wy l v :=
  ⟨(h.sli.grown hg (fun q hq => ⟨hq.2, by omega⟩)).more (fun q hq => ⟨hq.1, Nat.lt_of_lt_of_le hq.2 hg.size⟩), h.nb, h.sz⟩
theorem LsP.below {sb : Nat} {wx wy : World} {l : List ByteArray} {v : Value} (h : LsP sb wx l v) (hb : Below wx.heap.size wx wy) : LsP sb wy l v :=
  ⟨(h.sli.below hb (fun q hq => hq.2)).more (fun q hq => ⟨hq.1, Nat.lt_of_lt_of_le hq.2 hb.size⟩), h.nb, h.sz⟩
theorem LsP.of {sb : Nat} {w wx : World} {l : List ByteArray} {v : Value} {e : TypeId} (h : Own strR wx w.heap.size w.heap.size e l v) (hs : sb < w.heap.size) (hz : ∀ x ∈ l, x.size ≤ 10) : LsP sb wx l v :=
  ⟨h.sli (fun q h1 h2 => ⟨by omega, h2⟩) (fun g hg => by have := h.block g hg; omega), (fun k c hv => by
    rcases h.form with ⟨h1, h2⟩ | ⟨g, c', h1, _⟩
    · rw [h1] at hv; cases hv; rfl
    · rw [h1] at hv; cases hv), hz⟩
/-- Edits behind a stream, to be read. -/
abbrev LeP (sb : Nat) (wx : World) (l : List (Edt × Value)) (v : Value) : Prop := EdX wx (fun q => sb < q ∧ q < wx.heap.size) l v
theorem LeP.turn {sb : Nat} {wx wy : World} {l : List (Edt × Value)} {v : Value} (h : LeP sb wx l v) (hg : wx.grownBy wy (some sb)) : LeP sb wy l v :=
  ⟨(h.sli.grown hg (fun q hq => ⟨hq.2, by omega⟩)).more (fun q hq => ⟨hq.1, Nat.lt_of_lt_of_le hq.2 hg.size⟩), fun y hy => ((h.par y hy).keep (fun q hq => hg.block q hq.2 (fun e => by injection e; omega))).more (fun q hq => ⟨hq.1, Nat.lt_of_lt_of_le hq.2 hg.size⟩)⟩
theorem LeP.below {sb : Nat} {wx wy : World} {l : List (Edt × Value)} {v : Value} (h : LeP sb wx l v) (hb : Below wx.heap.size wx wy) : LeP sb wy l v :=
  ⟨(h.sli.below hb (fun q hq => hq.2)).more (fun q hq => ⟨hq.1, Nat.lt_of_lt_of_le hq.2 hb.size⟩), fun y hy => ((h.par y hy).keep (fun q hq => hb.block q hq.2)).more (fun q hq => ⟨hq.1, Nat.lt_of_lt_of_le hq.2 hb.size⟩)⟩
theorem EdX.more {w : World} {F G : Nat → Prop} {l : List (Edt × Value)} {v : Value} (h : EdX w F l v) (hk : ∀ b, F b → G b) : EdX w G l v := ⟨h.sli.more hk, fun y hy => (h.par y hy).more hk⟩
set_option maxRecDepth 100000 in
set_option maxHeartbeats 16000000 in
theorem ListPatches_c (A : Option Addr) (l : List Int) (c : Nat) (w : World) (hr : Rs w 0 w.heap.size 1 intc A l) (hl : l.length ≤ 17592186044416) (ho : ∀ x ∈ l, okI x) (he : ErrsLaid w) (hp : PowLaid w) (hm : MaxLaid w) :
    Calls Tryz.prog 3 #[.slice A l.length c] w fun e w' => e = .returned (.bool true) ∧ Below w.heap.size w w' := by
  have S0 := strNew w A l c hr hl ho
  have HLA := Lib.hid (fun (W : World) (hb : Below w.heap.size w W) => show MaxLaid W ∧ ErrsLaid W ∧ PowLaid W from ⟨max_below hm hb (Nat.le_refl _), he.below hb (Nat.le_refl _), pow_below hp hb (Nat.le_refl _)⟩)
  have G0 := Lib.hid (GS.start (R := dumR) (e := 3) S0)
  have HGE := Lib.hid (fun (n : Int) (wx : World) P (h : PvS (w.alloc (.cells #[.slice A l.length c, .int .i64 0] 25)) w.heap.size P n wx) => show Below w.heap.size w wx from gEnd h.gr)
  clear hr ho hm he hp S0
  go_enter Tryz.func3, Tryz.ntmps3
  go_upto_region 2 with (fail)
  generalize w.alloc (.cells #[.slice A l.length c, .int .i64 0] 25) = W0 at *
  go_wp2_with fail
  refine (Lines_s w.heap.size 0 6 W0 G0.out.str (by decide) (by decide)).mono ?_
  rintro e w1 ⟨va, n1, rfl, ⟨la, hown1, hla, hxa⟩, hn1, hs1, hg1⟩
  have hlt0 := G0.out.lt
  have LA1 := Lib.hid (LsP.of (sb := w.heap.size) hown1 hlt0 hxa)
  have G1 := Lib.hid (G0.out.turn hg1 hs1)
  clear hs1 hg1 G0 hown1 hxa
  have hva : ∃ A1 c1, va = .slice A1 la.length c1 := by
    obtain ⟨A', c', he, _⟩ := LA1.out.sli.form
    exact ⟨A', c', he⟩
  obtain ⟨A1, c1, rfl⟩ := hva
  obtain ⟨n0, hn0⟩ : ∃ n0, la.length = n0 := ⟨_, rfl⟩
  rw [hn0] at hla LA1 ⊢
  go_wp2_with fail
  refine (Edits_s w.heap.size n1 n0 w1 G1.out.str (by omega) (by omega)).mono ?_
  rintro e w2 ⟨vb, n2, rfl, ⟨le, hown2, hrow2, hlb, hok2⟩, hn2, hs2, hg2⟩
  have hz1 : w.heap.size < w1.heap.size := Nat.lt_of_lt_of_le hlt0 G1.out.gr.size
  have LB2 := Lib.hid (show LeP w.heap.size w2 le vb from ⟨hown2.sli (fun q h1 h2 => ⟨by omega, h2⟩) (fun g hg => by have := hown2.block g hg; omega), fun y hy => (hrow2 y hy).more fun q hq => ⟨by omega, hq.2⟩⟩)
  have LA2 := Lib.hid (LA1.out.turn hg2)
  have HAD := Lib.hid (show ∀ y ∈ le, y.1.add.length ≤ 2 ∧ -100000 ≤ y.1.at_ ∧ y.1.at_ ≤ 100000 ∧ -100000 ≤ y.1.drop ∧ y.1.drop ≤ 100000 from fun y hy => by
    obtain ⟨k1, k2, k3, k4, k5, _⟩ := hok2 y hy
    exact ⟨k5, by omega, by omega, by omega, by omega⟩)
  have G2 := Lib.hid (G1.out.turn hg2 hs2)
  clear hs2 hg2 G1 LA1 hown2 hrow2 hok2 hz1
  go_wp2_with fail
  refine (flip_c w.heap.size n2 40 w2 G2.out.str (by omega) (by omega) (by omega)).mono ?_
  rintro e w3 ⟨v3, n3, rfl, ⟨b3, rfl⟩, hn3, hs3, hg3⟩
  have LB3 := Lib.hid (LeP.turn LB2.out hg3)
  have LA3 := Lib.hid (LA2.out.turn hg3)
  have G3 := Lib.hid (G2.out.turn hg3 hs3)
  clear hs3 hg3 G2 LA2 LB2
  go_upto_if 20 with (fail)
  go_cut [4] (fun s4 wx => ∃ (lx : List ByteArray), lx.length ≤ 3001 ∧ Hid (LsP w.heap.size wx lx s4) ∧ Hid (LeP w.heap.size wx le vb) ∧ Hid (Below w.heap.size w wx))
  case first =>
    cases b3 with
    | false =>
      go_wp2_with fail
      go_meet
      exact ⟨la, by omega, LA3, LB3, Lib.hid (HGE.out _ _ _ G3.out)⟩
    | true =>
      go_wp2_with fail
      refine (pickL w3 [2999, 3000, 3001] _ _ _ _ rfl rfl (by decide) (by decide) G3.out.str (by omega)).mono ?_
      rintro e w7 ⟨v7, n7, rfl, ⟨y7, hy7, rfl⟩, hn7, hs7, hg7⟩
      have hyb : 0 ≤ y7 ∧ y7 ≤ 3001 := by simp at hy7; omega
      obtain ⟨m7, rfl⟩ := Int.eq_ofNat_of_zero_le hyb.1
      have hga := gTrans (gAlloc (gRefl w3 w.heap.size) (.cells #[.int .i64 2999, .int .i64 3000, .int .i64 3001] 3)) hg7
      have LB7 := Lib.hid (LeP.turn LB3.out hga)
      have G7 := Lib.hid (G3.out.turn hga hs7)
      clear hs7 hg7 hga G3 LA3 LB3 hy7
      go_wp2_with fail
      refine (Many_s w.heap.size n7 m7 w7 G7.out.str (by omega)).mono ?_
      rintro e w8 ⟨vb8, n8, rfl, ⟨lb8, hown8, hlb8, hxb8⟩, hn8, hs8, hg8⟩
      have LA8 := Lib.hid (LsP.of (sb := w.heap.size) hown8 (Nat.lt_of_lt_of_le hlt0 G7.out.gr.size) hxb8)
      have LB8 := Lib.hid (LeP.turn LB7.out hg8)
      have G8 := Lib.hid (G7.out.turn hg8 hs8)
      clear hs8 hg8 G7 LB7 hown8 hxb8
      go_wp2_with fail
      go_meet
      exact ⟨lb8, by omega, LA8, LB8, Lib.hid (HGE.out _ _ _ G8.out)⟩
  case rest =>
    clear G3 LA3 LB3 HGE
    obtain ⟨lx, hlx, LA, LB, HB⟩ := hcut
    obtain ⟨Ax, cx, hsx, hcx, hcx2⟩ := LA.out.sli.form
    subst hsx
    have HPT := Patch_c (F := fun q => q < wc.heap.size) lx le _ vb wc (LA.out.sli.more fun q hq => hq.2) (EdX.more LB.out fun q hq => hq.2) (fun q hq => hq) (by omega) (by omega) HAD.out
    unfold PatP at HPT
    have HPT := Lib.hid HPT
    clear hn3 hn2 hn1 hcx hcx2
    go_wp2_with fail
    refine HPT.out.mono ?_
    rintro e w4 ⟨v6, rfl, hb4, ho6⟩
    have LA4 := Lib.hid (LA.out.below hb4)
    have LB4 := Lib.hid (LeP.below LB.out hb4)
    have HB4 := Lib.hid (HB.out.trans (hb4.mono HB.out.size))
    have HO6 := Lib.hid (ho6.sli (F := fun q => q < w4.heap.size) (fun q _ h2 => h2) (fun g hg => (ho6.block g hg).2))
    clear hb4 ho6 HPT LA LB HB
    have HPO := PatchOf_c (F := fun q => q < w4.heap.size) lx le _ vb w4 (LA4.out.sli.more fun q hq => hq.2) (EdX.more LB4.out fun q hq => hq.2) (fun q hq => hq) (by omega) (by omega) HAD.out
    unfold PatP at HPO
    have HPO := Lib.hid HPO
    go_wp2_with fail
    refine HPO.out.mono ?_
    rintro e w5 ⟨v8, rfl, hb5, ho8⟩
    have HB5 := Lib.hid (HB4.out.trans (hb5.mono HB4.out.size))
    have hz5 := hb5.size
    have H6 := Lib.hid ((HO6.out.below hb5 (fun q hq => hq)).more (G := fun q => q < w5.heap.size) (fun q hq => by omega))
    have H8 := Lib.hid (ho8.sli (F := fun q => q < w5.heap.size) (fun q _ h2 => h2) (fun g hg => (ho8.block g hg).2))
    have HDR := Lib.hid (drafts_c w5 (HLA.out _ HB5.out).1 (HLA.out _ HB5.out).2.1 (HLA.out _ HB5.out).2.2)
    clear hb5 ho8 HPO LA4 LB4 HB4 HO6
    generalize patE lx (le.map (·.1)) = z at *
    generalize (if z = 0 then edF lx 0 (le.map (·.1)) else []) = R at *
    go_wp2_with fail
    with_reducible refine HDR.out.mono ?_
    rintro e w6 ⟨rfl, hb6⟩
    have HB6 := Lib.hid (HB5.out.trans (hb6.mono HB5.out.size))
    have hz6 := hb6.size
    have HE1 := eqStr_c R R v6 v8 (fun q => q < w5.heap.size) w6 (H6.out.below hb6 (fun q hq => hq)) (H8.out.below hb6 (fun q hq => hq)) (fun q hq => by omega)
    rw [decide_eq_true rfl] at HE1
    have HE1 := Lib.hid HE1
    clear hb6 HDR HB5 H6 H8
    go_wp2_with fail
    refine HE1.out.mono ?_
    rintro e w7 ⟨rfl, hb7⟩
    have HB7 := Lib.hid (HB6.out.trans (hb7.mono HB6.out.size))
    clear hb7
    go_wp2
    go_ret
    exact ⟨rfl, HB7.out⟩
end Go.Proofs.YtnnnmbipmfopmaaGreatDoor

