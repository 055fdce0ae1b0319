/- Texts packed: LawListMerges. -/
import Derived.Test.YtnnnmbipmfopmaaGreatDoorRows
import Derived.Test.YtnnnmbipmfopmaaGreatDoorSc42
import Derived.Test.YtnnnmbipmfopmaaGreatDoorSc41
import Derived.Test.YtnnnmbipmfopmaaGreatDoorSc02
/- The law ListMerges walked: for every list of numbers it returns true and leaves what was there. -/
namespace Go.Proofs.YtnnnmbipmfopmaaGreatDoor
set_option linter.unusedVariables false
open Go.RowKit Go.Sort

/-- Lines behind a stream, to be read. -/
structure LsP (sb : Nat) (wx : World) (l : List ByteArray) (v : Value) : Prop where
  sli : Sli strR wx (fun q => sb < q ∧ q < wx.heap.size) l v
  nb : ∀ k c, v = .slice none k c → c = 0
  sz : ∀ x ∈ l, x.size ≤ 10
theorem LsP.turn {sb : Nat} {wx wy : World} {l : List ByteArray} {v : Value} (h : LsP sb wx l v) (hg : wx.grownBy wy (some sb)) : LsP sb wy l v :=
  ⟨(h.sli.grown hg (fun q hq => ⟨hq.2, by omega⟩)).more (fun q hq => ⟨hq.1, Nat.lt_of_lt_of_le hq.2 hg.size⟩), h.nb, h.sz⟩
theorem LsP.below {sb : Nat} {wx wy : World} {l : List ByteArray} {v : Value} (h : LsP sb wx l v) (hb : Below wx.heap.size wx wy) : LsP sb wy l v :=
  ⟨(h.sli.below hb (fun q hq => hq.2)).more (fun q hq => ⟨hq.1, Nat.lt_of_lt_of_le hq.2 hb.size⟩), h.nb, h.sz⟩
theorem LsP.of {sb : Nat} {w wx : World} {l : List ByteArray} {v : Value} {e : TypeId} (h : Own strR wx w.heap.size w.heap.size e l v) (hs : sb < w.heap.size) (hz : ∀ x ∈ l, x.size ≤ 10) : LsP sb wx l v :=
  ⟨h.sli (fun q h1 h2 => ⟨by omega, h2⟩) (fun g hg => by have := h.block g hg; omega), (fun k c hv => by
    rcases h.form with ⟨h1, h2⟩ | ⟨g, c', h1, _⟩
    · rw [h1] at hv; cases hv; rfl
    · rw [h1] at hv; cases hv), hz⟩
set_option maxRecDepth 100000 in
set_option maxHeartbeats 16000000 in
theorem ListMerges_c (A : Option Addr) (l : List Int) (c : Nat) (w : World) (hr : Rs w 0 w.heap.size 1 intc A l) (hl : l.length ≤ 17592186044416) (ho : ∀ x ∈ l, okI x) (he : ErrsLaid w) (hp : PowLaid w) (hm : MaxLaid w) :
    Calls Tryz.prog 4 #[.slice A l.length c] w fun e w' => e = .returned (.bool true) ∧ Below w.heap.size w w' := by
  have S0 := strNew w A l c hr hl ho
  have HLA := Lib.hid (fun (W : World) (hb : Below w.heap.size w W) => show MaxLaid W ∧ ErrsLaid W ∧ PowLaid W from ⟨max_below hm hb (Nat.le_refl _), he.below hb (Nat.le_refl _), pow_below hp hb (Nat.le_refl _)⟩)
  have G0 := Lib.hid (GS.start (R := dumR) (e := 3) S0)
  have HGE := Lib.hid (fun (n : Int) (wx : World) P (h : PvS (w.alloc (.cells #[.slice A l.length c, .int .i64 0] 25)) w.heap.size P n wx) => show Below w.heap.size w wx from gEnd h.gr)
  clear hr ho hm he hp S0
  go_enter Tryz.func4, Tryz.ntmps4
  go_upto_region 2 with (fail)
  generalize w.alloc (.cells #[.slice A l.length c, .int .i64 0] 25) = W0 at *
  go_wp2_with fail
  refine (Lines_s w.heap.size 0 7 W0 G0.out.str (by decide) (by decide)).mono ?_
  rintro e w1 ⟨va, n1, rfl, ⟨la, hown1, hla, hxa⟩, hn1, hs1, hg1⟩
  have hlt0 := G0.out.lt
  have LA1 := Lib.hid (LsP.of (sb := w.heap.size) hown1 hlt0 hxa)
  have G1 := Lib.hid (G0.out.turn hg1 hs1)
  clear hs1 hg1 G0 hown1 hxa
  have hva : ∃ A1 c1, va = .slice A1 la.length c1 := by
    obtain ⟨A', c', he, _⟩ := LA1.out.sli.form
    exact ⟨A', c', he⟩
  obtain ⟨A1, c1, rfl⟩ := hva
  go_wp2_with fail
  refine (Like_s w.heap.size n1 la A1 c1 w1 G1.out.str (by omega) LA1.out.sli (by omega) LA1.out.sz).mono ?_
  rintro e w2 ⟨vb, n2, rfl, ⟨lb, hown2, hlb, hxb⟩, hn2, hs2, hg2⟩
  have LB2 := Lib.hid (LsP.of (sb := w.heap.size) hown2 (Nat.lt_of_lt_of_le hlt0 G1.out.gr.size) hxb)
  have LA2 := Lib.hid (LA1.out.turn hg2)
  have G2 := Lib.hid (G1.out.turn hg2 hs2)
  clear hs2 hg2 G1 LA1 hown2 hxb
  go_wp2_with fail
  refine (Like_s w.heap.size n2 la A1 c1 w2 G2.out.str (by omega) LA2.out.sli (by omega) LA2.out.sz).mono ?_
  rintro e w3 ⟨vc, n3, rfl, ⟨lc, hown3, hlc, hxc⟩, hn3, hs3, hg3⟩
  have LC3 := Lib.hid (LsP.of (sb := w.heap.size) hown3 (Nat.lt_of_lt_of_le hlt0 G2.out.gr.size) hxc)
  have LA3 := Lib.hid (LA2.out.turn hg3)
  have LB3 := Lib.hid (LB2.out.turn hg3)
  have HB3 := Lib.hid (HGE.out _ _ _ (G2.out.turn hg3 hs3))
  clear hs3 hg3 G2 LA2 LB2 hown3 hxc HGE hlt0
  have HME := Merge_c (F := fun q => q < w3.heap.size) la lb lc _ _ _ w3 (LA3.out.sli.more fun q hq => hq.2) (LB3.out.sli.more fun q hq => hq.2) (LC3.out.sli.more fun q hq => hq.2) (fun q hq => hq) (by omega) (by omega) (by omega)
  unfold MerP at HME
  have HME := Lib.hid HME
  go_wp2_with fail
  refine HME.out.mono ?_
  rintro e w4 ⟨v7, v8, rfl, hb4, ho7, ho8⟩
  have HB4 := Lib.hid (HB3.out.trans (hb4.mono HB3.out.size))
  have LA4 := Lib.hid (LA3.out.below hb4)
  have LB4 := Lib.hid (LB3.out.below hb4)
  have LC4 := Lib.hid (LC3.out.below hb4)
  have HO7 := Lib.hid (ho7.sli (F := fun q => q < w4.heap.size) (fun q _ h2 => h2) (fun g hg => (ho7.block g hg).2))
  have HO8 := Lib.hid (ho8.sli (F := fun q => q < w4.heap.size) (fun q _ h2 => h2) (fun g hg => (ho8.block g hg).2))
  clear hb4 ho7 ho8 HME LA3 LB3 LC3 HB3
  have HMO := MergeOf_c (F := fun q => q < w4.heap.size) la lb lc _ _ _ w4 (LA4.out.sli.more fun q hq => hq.2) (LB4.out.sli.more fun q hq => hq.2) (LC4.out.sli.more fun q hq => hq.2) (fun q hq => hq) (by omega) (by omega) (by omega)
  unfold MofP at HMO
  have HMO := Lib.hid HMO
  go_wp2_with fail
  refine HMO.out.mono ?_
  rintro e w5 ⟨v10, v11, rfl, hb5, ho10, ho11⟩
  have HB5 := Lib.hid (HB4.out.trans (hb5.mono HB4.out.size))
  have hz5 := hb5.size
  have H7 := Lib.hid ((HO7.out.below hb5 (fun q hq => hq)).more (G := fun q => q < w5.heap.size) (fun q hq => by omega))
  have H8 := Lib.hid ((HO8.out.below hb5 (fun q hq => hq)).more (G := fun q => q < w5.heap.size) (fun q hq => by omega))
  have H10 := Lib.hid (ho10.sli (F := fun q => q < w5.heap.size) (fun q _ h2 => h2) (fun g hg => (ho10.block g hg).2))
  have H11 := Lib.hid (ho11.sli (F := fun q => q < w5.heap.size) (fun q _ h2 => h2) (fun g hg => (ho11.block g hg).2))
  have HDR := Lib.hid (drafts_c w5 (HLA.out _ HB5.out).1 (HLA.out _ HB5.out).2.1 (HLA.out _ HB5.out).2.2)
  clear hb5 ho10 ho11 HMO LA4 LB4 LC4 HB4 HO7 HO8
  go_wp2_with fail
  with_reducible refine HDR.out.mono ?_
  rintro e w6 ⟨rfl, hb6⟩
  have HB6 := Lib.hid (HB5.out.trans (hb6.mono HB5.out.size))
  have hz6 := hb6.size
  have K7 := Lib.hid (H7.out.below hb6 (fun q hq => hq))
  have K10 := Lib.hid (H10.out.below hb6 (fun q hq => hq))
  have K8 := Lib.hid (H8.out.below hb6 (fun q hq => hq))
  have K11 := Lib.hid (H11.out.below hb6 (fun q hq => hq))
  have HE1 := eqStr_c (mgE la lb lc).out (mgE la lb lc).out v7 v10 (fun q => q < w5.heap.size) w6 K7.out K10.out (fun q hq => by omega)
  rw [decide_eq_true rfl] at HE1
  have HE1 := Lib.hid HE1
  clear hb6 HDR HB5 H7 H8 H10 H11 K7 K10
  go_wp2_with fail
  refine HE1.out.mono ?_
  rintro e w7 ⟨rfl, hb7⟩
  have HB7 := Lib.hid (HB6.out.trans (hb7.mono HB6.out.size))
  have hz7 := hb7.size
  have HE2 := Lib.hid (eqCl_c (F := fun q => q < w5.heap.size) (mgE la lb lc).cl v8 v11 w7 (K8.out.below hb7 (fun q hq => by omega)) (K11.out.below hb7 (fun q hq => by omega)) (fun q hq => by omega))
  clear hb7 HE1 HB6 K8 K11
  go_wp2_with fail
  refine HE2.out.mono ?_
  rintro e w8 ⟨rfl, hb8⟩
  have HB8 := Lib.hid (HB7.out.trans (hb8.mono HB7.out.size))
  clear hb8
  go_wp2
  go_ret
  exact ⟨rfl, HB8.out⟩
end Go.Proofs.YtnnnmbipmfopmaaGreatDoor

