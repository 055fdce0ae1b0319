/- Texts packed: LawListPairs. -/
import Derived.Test.YtlmfpaincgkpeaaGreatDoorRows
import Derived.Test.YtlmfpaincgkpeaaGreatDoorSc42
import Derived.Test.YtlmfpaincgkpeaaGreatDoorSc41
import Derived.Test.YtlmfpaincgkpeaaGreatDoorSc02
/- The law ListPairs walked: for every list of numbers it returns true and leaves what was there. -/
namespace Go.Proofs.YtlmfpaincgkpeaaGreatDoor
set_option linter.unusedVariables false
open Go.RowKit Go.Sort

/-- Lines behind a stream, to be read. -/
structure LsP (sb : Nat) (wx : World) (l : List ByteArray) (v : Value) : Prop where
  sli : Sli strR wx (fun q => sb < q ∧ q < wx.heap.size) l v
  nb : ∀ k c, v = .slice none k c → c = 0
  sz : ∀ x ∈ l, x.size ≤ 10
theorem LsP.turn {sb : Nat} {wx wy : World} {l : List ByteArray} {v : Value} (h : LsP sb wx l v) (hg : wx.grownBy wy (some sb)) : LsP sb wy l v :=
  ⟨(h.sli.grown hg (fun q hq => ⟨hq.2, by omega⟩)).more (fun q hq => ⟨hq.1, Nat.lt_of_lt_of_le hq.2 hg.size⟩), h.nb, h.sz⟩
theorem LsP.below {sb : Nat} {wx wy : World} {l : List ByteArray} {v : Value} (h : LsP sb wx l v) (hb : Below wx.heap.size wx wy) : LsP sb wy l v :=
  ⟨(h.sli.below hb (fun q hq => hq.2)).more (fun q hq => ⟨hq.1, Nat.lt_of_lt_of_le hq.2 hb.size⟩), h.nb, h.sz⟩
theorem LsP.of {sb : Nat} {w wx : World} {l : List ByteArray} {v : Value} {e : TypeId} (h : Own strR wx w.heap.size w.heap.size e l v) (hs : sb < w.heap.size) (hz : ∀ x ∈ l, x.size ≤ 10) : LsP sb wx l v :=
  ⟨h.sli (fun q h1 h2 => ⟨by omega, h2⟩) (fun g hg => by have := h.block g hg; omega), (fun k c hv => by
    rcases h.form with ⟨h1, h2⟩ | ⟨g, c', h1, _⟩
    · rw [h1] at hv; cases hv; rfl
    · rw [h1] at hv; cases hv), hz⟩
set_option maxRecDepth 100000 in
set_option maxHeartbeats 16000000 in
theorem ListPairs_c (A : Option Addr) (l : List Int) (c : Nat) (w : World) (hr : Rs w 0 w.heap.size 1 intc A l) (hl : l.length ≤ 17592186044416) (ho : ∀ x ∈ l, okI x) (he : ErrsLaid w) (hp : PowLaid w) (hm : MaxLaid w) :
    Calls Tryz.prog 5 #[.slice A l.length c] w fun e w' => e = .returned (.bool true) ∧ Below w.heap.size w w' := by
  have S0 := strNew w A l c hr hl ho
  have HLA := Lib.hid (fun (W : World) (hb : Below w.heap.size w W) => show MaxLaid W ∧ ErrsLaid W ∧ PowLaid W from ⟨max_below hm hb (Nat.le_refl _), he.below hb (Nat.le_refl _), pow_below hp hb (Nat.le_refl _)⟩)
  have G0 := Lib.hid (GS.start (R := dumR) (e := 3) S0)
  have HGE := Lib.hid (fun (n : Int) (wx : World) P (h : PvS (w.alloc (.cells #[.slice A l.length c, .int .i64 0] 25)) w.heap.size P n wx) => show Below w.heap.size w wx from gEnd h.gr)
  clear hr ho hm he hp S0
  go_enter Tryz.func5, Tryz.ntmps5
  go_upto_region 2 with (fail)
  generalize w.alloc (.cells #[.slice A l.length c, .int .i64 0] 25) = W0 at *
  go_wp2_with fail
  refine (Lines_s w.heap.size 0 8 W0 G0.out.str (by decide) (by decide)).mono ?_
  rintro e w1 ⟨va, n1, rfl, ⟨la, hown1, hla, hxa⟩, hn1, hs1, hg1⟩
  have hlt0 := G0.out.lt
  have LA1 := Lib.hid (LsP.of (sb := w.heap.size) hown1 hlt0 hxa)
  have G1 := Lib.hid (G0.out.turn hg1 hs1)
  clear hs1 hg1 G0 hown1 hxa
  have hva : ∃ A1 c1, va = .slice A1 la.length c1 := by
    obtain ⟨A', c', he, _⟩ := LA1.out.sli.form
    exact ⟨A', c', he⟩
  obtain ⟨A1, c1, rfl⟩ := hva
  go_wp2_with fail
  refine (Like_s w.heap.size n1 la A1 c1 w1 G1.out.str (by omega) LA1.out.sli (by omega) LA1.out.sz).mono ?_
  rintro e w2 ⟨vb, n2, rfl, ⟨lb, hown2, hlb, hxb⟩, hn2, hs2, hg2⟩
  have LB2 := Lib.hid (LsP.of (sb := w.heap.size) hown2 (Nat.lt_of_lt_of_le hlt0 G1.out.gr.size) hxb)
  have LA2 := Lib.hid (LA1.out.turn hg2)
  have G2 := Lib.hid (G1.out.turn hg2 hs2)
  clear hs2 hg2 G1 LA1 hown2 hxb
  go_wp2_with fail
  refine (flip_c w.heap.size n2 3 w2 G2.out.str (by omega) (by omega) (by omega)).mono ?_
  rintro e w3 ⟨v3, n3, rfl, ⟨b3, rfl⟩, hn3, hs3, hg3⟩
  have LB3 := Lib.hid (LB2.out.turn hg3)
  have LA3 := Lib.hid (LA2.out.turn hg3)
  have G3 := Lib.hid (G2.out.turn hg3 hs3)
  clear hs3 hg3 G2 LA2 LB2
  go_upto_if 19 with (fail)
  go_cut [5] (fun s5 wx => ∃ (lb : List ByteArray) (n : Int), lb.length ≤ 11 ∧ n ≤ 4000 ∧ Hid (LsP w.heap.size wx lb s5) ∧ Hid (LsP w.heap.size wx la (.slice A1 la.length c1)) ∧ Hid (PvS W0 w.heap.size [] n wx))
  case first =>
    cases b3 with
    | false =>
      go_wp2_with fail
      go_meet
      exact ⟨lb, n3, by omega, by omega, LB3, LA3, G3⟩
    | true =>
      go_wp2_with fail
      refine (Lines_s w.heap.size n3 8 w3 G3.out.str (by omega) (by decide)).mono ?_
      rintro e w4 ⟨vb4, n4, rfl, ⟨lb4, hown4, hlb4, hxb4⟩, hn4, hs4, hg4⟩
      have LB4 := Lib.hid (LsP.of (sb := w.heap.size) hown4 (Nat.lt_of_lt_of_le hlt0 G3.out.gr.size) hxb4)
      have LA4 := Lib.hid (LA3.out.turn hg4)
      have G4 := Lib.hid (G3.out.turn hg4 hs4)
      clear hs4 hg4 G3 LA3 LB3 hown4 hxb4
      go_wp2_with fail
      go_meet
      exact ⟨lb4, n4, by omega, by omega, LB4, LA4, G4⟩
  case rest =>
    clear G3 LA3 LB3
    obtain ⟨lb5, n5, hlb5, hn5, LB5, LA5, G5⟩ := hcut
    go_wp2_with fail
    refine (flip_c w.heap.size n5 40 _ G5.out.str (by omega) (by omega) (by omega)).mono ?_
    rintro e w6 ⟨v6, n6, rfl, ⟨b6, rfl⟩, hn6, hs6, hg6⟩
    have LB6 := Lib.hid (LB5.out.turn hg6)
    have LA6 := Lib.hid (LA5.out.turn hg6)
    have G6 := Lib.hid (G5.out.turn hg6 hs6)
    clear hs6 hg6 G5 LA5 LB5
    go_upto_if 23 with (fail)
    go_cut [5] (fun s5 wx => ∃ (lb : List ByteArray) (n : Int), lb.length ≤ 3001 ∧ n ≤ 4010 ∧ Hid (LsP w.heap.size wx lb s5) ∧ Hid (LsP w.heap.size wx la (.slice A1 la.length c1)) ∧ Hid (PvS W0 w.heap.size [] n wx))
    case first =>
      cases b6 with
      | false =>
        go_wp2_with fail
        go_meet
        exact ⟨lb5, n6, by omega, by omega, LB6, LA6, G6⟩
      | true =>
        go_wp2_with fail
        refine (pickL w6 [3000, 3001] _ _ _ _ rfl rfl (by decide) (by decide) G6.out.str (by omega)).mono ?_
        rintro e w7 ⟨v7, n7, rfl, ⟨y7, hy7, rfl⟩, hn7, hs7, hg7⟩
        have hyb : 0 ≤ y7 ∧ y7 ≤ 3001 := by simp at hy7; omega
        obtain ⟨m7, rfl⟩ := Int.eq_ofNat_of_zero_le hyb.1
        have hga := gTrans (gAlloc (gRefl w6 w.heap.size) (.cells #[.int .i64 3000, .int .i64 3001] 3)) hg7
        have LA7 := Lib.hid (LA6.out.turn hga)
        have G7 := Lib.hid (G6.out.turn hga hs7)
        clear hs7 hg7 hga G6 LA6 LB6 hy7
        go_wp2_with fail
        refine (Many_s w.heap.size n7 m7 w7 G7.out.str (by omega)).mono ?_
        rintro e w8 ⟨vb8, n8, rfl, ⟨lb8, hown8, hlb8, hxb8⟩, hn8, hs8, hg8⟩
        have LB8 := Lib.hid (LsP.of (sb := w.heap.size) hown8 (Nat.lt_of_lt_of_le hlt0 G7.out.gr.size) hxb8)
        have LA8 := Lib.hid (LA7.out.turn hg8)
        have G8 := Lib.hid (G7.out.turn hg8 hs8)
        clear hs8 hg8 G7 LA7 hown8 hxb8
        go_wp2_with fail
        go_meet
        exact ⟨lb8, n8, by omega, by omega, LB8, LA8, G8⟩
    case rest =>
      clear G6 LA6 LB6
      obtain ⟨b, n9, hb9, hn9, LB, LA, G9⟩ := hcut
      have HB9 := Lib.hid (HGE.out _ _ _ G9.out)
      clear hn9 hn5 hn3 hn2 hn1 hn6 hlb5 hlb
      obtain ⟨B1, cb1, hvb, hcb, hcb2⟩ := LB.out.sli.form
      subst hvb
      have hsa : la.length ≤ 8 := hla
      have HPR := Pairs_c la b _ _ wc LA.out.sli LB.out.sli (fun q hq => hq.2) (fun q hq => hq.2)
      unfold PrsP at HPR
      have HPR := Lib.hid HPR
      clear G9
      go_wp2_with fail
      refine HPR.out.mono ?_
      rintro e w10 ⟨v6, z6, rfl, hb10, hz6, ho6⟩
      have LA10 := Lib.hid (LA.out.below hb10)
      have LB10 := Lib.hid (LB.out.below hb10)
      have HB10 := Lib.hid (HB9.out.trans (hb10.mono HB9.out.size))
      have HO6 := Lib.hid ho6
      have HZ6 := Lib.hid hz6
      have HDF := Differ_c la b _ _ w10 LA10.out.sli LB10.out.sli (fun q hq => hq.2) (fun q hq => hq.2) LB10.out.nb
      unfold DifP at HDF
      have HDF := Lib.hid HDF
      clear hb10 hz6 ho6 HPR LA LB HB9
      go_wp2_with fail
      refine HDF.out.mono ?_
      rintro e w11 ⟨v8, z8, rfl, hb11, hz8, ho8⟩
      have LA11 := Lib.hid (LA10.out.below hb11)
      have LB11 := Lib.hid (LB10.out.below hb11)
      have HB11 := Lib.hid (HB10.out.trans (hb11.mono HB10.out.size))
      have HO8 := Lib.hid ho8
      have HZ8 := Lib.hid hz8
      have HV6 := Lib.hid (fun (h : z6 = 0) => ((HO6.out h).sli (F := fun q => q < w10.heap.size) (fun q _ h2 => h2) (fun g hg => ((HO6.out h).block g hg).2)).below hb11 (fun q hq => hq))
      have hzz := hb11.size
      have HDR := Lib.hid (drafts_c w11 (HLA.out _ HB11.out).1 (HLA.out _ HB11.out).2.1 (HLA.out _ HB11.out).2.2)
      clear hb11 hz8 ho8 HDF LA10 LB10 HB10 HO6
      by_cases hbig : 3000 < b.length
      · have e6 : z6 = 2 := by rw [HZ6.out, if_pos (.inr hbig)]
        have e8 : z8 = 2 := by rw [HZ8.out, if_pos (.inr hbig)]
        subst e6
        subst e8
        have hbi : (3000 : Int) < b.length := by omega
        clear HZ6 HZ8 HV6 HO8
        go_wp2_with fail
        with_reducible refine HDR.out.mono ?_
        rintro e w12 ⟨rfl, hb12⟩
        have HB12 := Lib.hid (HB11.out.trans (hb12.mono HB11.out.size))
        clear hb12 HDR
        go_wp2
        go_ret
        exact ⟨rfl, HB12.out⟩
      · have e6 : z6 = 0 := by rw [HZ6.out, if_neg (by omega)]
        have e8 : z8 = 0 := by rw [HZ8.out, if_neg (by omega)]
        subst e6
        subst e8
        have hbi : ¬ (3000 : Int) < b.length := by omega
        have hv6 := Lib.hid (HV6.out rfl)
        obtain ⟨d8, hd8, hel8⟩ := HO8.out rfl
        have HD8 := Lib.hid hd8
        have HE8 := Lib.hid hel8
        clear HZ6 HZ8 HV6 HO8 hd8 hel8
        go_wp2_with fail
        with_reducible refine HDR.out.mono ?_
        rintro e w12 ⟨rfl, hb12⟩
        have HB12 := Lib.hid (HB11.out.trans (hb12.mono HB11.out.size))
        have LA12 := Lib.hid (LA11.out.below hb12)
        have LB12 := Lib.hid (LB11.out.below hb12)
        have hv12 := Lib.hid (hv6.out.below hb12 (fun q hq => by omega))
        have HE12 := Lib.hid (HE8.out.keep (w' := w12) (fun q hq => hb12.block q hq.2))
        have hz12 := hb12.size
        have HPO := PairsOf_c la b _ _ w12 LA12.out.sli LB12.out.sli (fun q hq => hq.2) (fun q hq => hq.2) (by omega) (by omega)
        unfold PairP at HPO
        have HPO := Lib.hid HPO
        clear hb12 HDR LA11 LB11 hv6 HE8 HB11
        go_wp2_with fail
        refine HPO.out.mono ?_
        rintro e w13 ⟨v13, rfl, hown13, hb13⟩
        have HB13 := Lib.hid (HB12.out.trans (hb13.mono HB12.out.size))
        have LA13 := Lib.hid (LA12.out.below hb13)
        have LB13 := Lib.hid (LB12.out.below hb13)
        have hz13 := hb13.size
        have HEQ := Lib.hid (eqPr_c (F := fun q => q < w13.heap.size) (prX la b) v6 v13 w13 ((hv12.out.below hb13 (fun q hq => by omega)).more (fun q hq => by omega)) (hown13.sli (fun q _ h => h) (fun g hg => (hown13.block g hg).2)) (fun q hq => hq))
        have HE13 := Lib.hid (HE12.out.keep (w' := w13) (fun q hq => hb13.block q (by omega)))
        clear hb13 hown13 HPO LA12 LB12 hv12 HE12 HB12
        go_wp2_with fail
        refine HEQ.out.mono ?_
        rintro e w14 ⟨rfl, hb14⟩
        have HB14 := Lib.hid (HB13.out.trans (hb14.mono HB13.out.size))
        have LA14 := Lib.hid (LA13.out.below hb14)
        have LB14 := Lib.hid (LB13.out.below hb14)
        have HE14 := Lib.hid (HE13.out.keep (w' := w14) (fun q hq => hb14.block q (by omega)))
        have hz14 := hb14.size
        have HDO := DifferOf_c la b _ _ w14 LA14.out.sli LB14.out.sli (fun q hq => hq.2) (fun q hq => hq.2) LB14.out.nb (by omega) (by omega)
        unfold DfrP at HDO
        have HDO := Lib.hid HDO
        clear hb14 HEQ LA13 LB13 HE13 HB13
        go_wp2_with fail
        refine HDO.out.mono ?_
        rintro e w15 ⟨v15, d15, rfl, hb15, hd15, hel15⟩
        have HB15 := Lib.hid (HB14.out.trans (hb15.mono HB14.out.size))
        have HE15 := Lib.hid (HE14.out.keep (w' := w15) (fun q hq => hb15.block q (by omega)))
        have hz15 := hb15.size
        have HSE := Lib.hid (SameEdits_c (F := fun q => q < w15.heap.size) d8 d15 v8 v15 w15 ⟨HE15.out.sli.more (fun q hq => by omega), fun y hy => (HE15.out.par y hy).more (fun q hq => by omega), fun q hq => hq⟩ ⟨hel15.sli.more (fun q hq => hq.2), fun y hy => (hel15.par y hy).more (fun q hq => hq.2), fun q hq => hq⟩ (HD8.out.trans hd15.symm))
        clear hb15 HDO LA14 LB14 HE14 HB14 hd15 hel15 HE15
        go_wp2_with fail
        refine HSE.out.mono ?_
        rintro e w16 ⟨rfl, hb16⟩
        have HB16 := Lib.hid (HB15.out.trans (hb16.mono HB15.out.size))
        clear hb16
        go_wp2
        go_ret
        exact ⟨rfl, HB16.out⟩
end Go.Proofs.YtlmfpaincgkpeaaGreatDoor

