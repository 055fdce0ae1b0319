/- Texts packed: LawScriptHeadings. -/
import Derived.Test.YtihkkaeoijheoaaGreatDoorRows
import Derived.Test.YtihkkaeoijheoaaGreatDoorHd33
import Derived.Test.YtihkkaeoijheoaaGreatDoorHd25
import Derived.Test.YtihkkaeoijheoaaGreatDoorHd37
import Derived.Test.YtihkkaeoijheoaaGreatDoorHd02
import Derived.Deep.DeepCutAuto
/- The law ScriptHeadings walked: for every list of numbers it returns true and leaves what was there. -/
namespace Go.Proofs.YtihkkaeoijheoaaGreatDoor
set_option linter.unusedVariables false
open Go.RowKit Go.Sort

theorem head_line {line : ByteArray} {x : Scene} (h : headFrom line = some x) : headE x = 0 ∧ headS x = line ∧ x.paras = [] ∧ okS x := by
  obtain ⟨_, p, t, _, _, hc⟩ := hf_no h
  have h2 := hf_yes hc
  rw [h] at h2
  injection h2 with h2
  subst h2
  exact ⟨hc.2.2.2.2.1, hc.2.2.2.2.2, rfl, headE_ok hc.2.2.2.2.1 rfl⟩
theorem okS_sizes {x : Scene} (h : okS x) : x.no.size ≤ 8 ∧ x.set.size ≤ 60 := by
  obtain ⟨h1, _, _, h4, _⟩ := h
  refine ⟨?_, (setB_sz h4).2⟩
  rcases h1 with h1 | h1
  · rw [h1]; exact Nat.zero_le _
  · exact numB_size h1
set_option maxRecDepth 100000 in
set_option maxHeartbeats 8000000 in
theorem ScriptHeadings_c (A : Option Addr) (l : List Int) (c : Nat) (w : World) (hr : Rs w 0 w.heap.size 1 intc A l) (hl : l.length ≤ 17592186044416) (ho : ∀ x ∈ l, okI x) (hs : SpLaid w) (hm : MaxLaid w) :
    Calls Tryz.prog 3 #[.slice A l.length c] w fun e w' => e = .returned (.bool true) ∧ Below w.heap.size w w' := by
  have S0 := strNew w A l c hr hl ho
  have HW0 := Lib.hid (show (w.alloc (.cells #[.slice A l.length c, .int .i64 0] 25)).heap.size = w.heap.size + 1 by simp)
  have HG := Lib.hid (fun (n : Int) (wx : World) P (h : PvS (w.alloc (.cells #[.slice A l.length c, .int .i64 0] 25)) w.heap.size P n wx) => show Below w.heap.size w wx ∧ SpLaid wx ∧ MaxLaid wx from
    have hb := gEnd h.gr
    ⟨hb, sp_below hs hb (Nat.le_refl _), max_below hm hb (Nat.le_refl _)⟩)
  have G0 := Lib.hid (GS.start (R := dumR) (e := 3) S0)
  clear hr ho hs hm S0
  go_enter Tryz.func3, Tryz.ntmps3
  go_upto_region 2 with (fail)
  generalize w.alloc (.cells #[.slice A l.length c, .int .i64 0] 25) = W0 at *
  go_wp2_with fail
  refine (SHeading_c w.heap.size 0 W0 G0.out.str (by decide)).mono ?_
  rintro e w1 ⟨v1, n1, rfl, ⟨tx, htx, rfl⟩, hn1, hs1, hg1⟩
  have G1 := Lib.hid (G0.out.turn hg1 hs1)
  have hsb : w.heap.size < W0.heap.size := by have := HW0.out; omega
  clear hs1 hg1 G0
  have HRH := Lib.hid (ReadHeading_c tx w1 (by omega) (HG.out _ _ _ G1.out).2.2)
  cases hf : headFrom tx with
  | none =>
    rw [show RhP tx w1 = fun e w' => e = .returned (rhV (headFrom tx)) ∧ Below w1.heap.size w1 w' from rfl, hf] at HRH
    go_wp2_with fail
    refine HRH.out.mono ?_
    rintro e w2 ⟨rfl, hb2⟩
    have G2 := Lib.hid ((G1.out.below hb2).alloc (.cells (scC ⟨#[]⟩ 0 ⟨#[]⟩ 0 (.slice none 0 0)) 29))
    clear hb2 HRH G1
    rw [show rhV none = .tuple #[.agg #[.string ⟨#[]⟩, .int .i64 0, .string ⟨#[]⟩, .int .i64 0, .slice none 0 0], .int .i64 9] from rfl]
    go_upto_region 4 with (fail)
    generalize hW : w2.alloc (.cells #[.string ⟨#[]⟩, .int .i64 0, .string ⟨#[]⟩, .int .i64 0, .slice none 0 0] 29) = w3
    have G3 := Lib.hid (show PvS W0 w.heap.size [] n1 w3 by rw [← hW]; exact G2.out)
    have HHF := Lib.hid (HeadingFrom_c tx w3 (by omega) (HG.out _ _ _ G3.out).2.1 (HG.out _ _ _ G3.out).2.2)
    rw [show HfP tx w3 = fun e w' => e = .returned (hfV (headFrom tx)) ∧ Below w3.heap.size w3 w' from rfl, hf] at HHF
    clear hW G2 hf
    go_wp2_with fail
    refine HHF.out.mono ?_
    rintro e w4 ⟨rfl, hb4⟩
    have G4 := Lib.hid ((G3.out.below hb4).alloc (.cells (scC ⟨#[]⟩ 0 ⟨#[]⟩ 0 (.slice none 0 0)) 29))
    clear hb4 HHF G3
    rw [show hfV none = .tuple #[.agg #[.string ⟨#[]⟩, .int .i64 0, .string ⟨#[]⟩, .int .i64 0, .slice none 0 0], .bool false] from rfl]
    go_upto_region 6 with (fail)
    generalize hW : w4.alloc (.cells #[.string ⟨#[]⟩, .int .i64 0, .string ⟨#[]⟩, .int .i64 0, .slice none 0 0] 29) = w5
    have G5 := Lib.hid (show PvS W0 w.heap.size [] n1 w5 by rw [← hW]; exact G4.out)
    have HSC := Lib.hid (scripts_c w5 (HG.out _ _ _ G5.out).2.2)
    have HEN := Lib.hid (HG.out _ _ _ G5.out).1
    clear hW G4
    go_wp2_with fail
    refine HSC.out.mono ?_
    rintro e w6 ⟨rfl, hb6⟩
    have HE := Lib.hid (HEN.out.trans (hb6.mono HEN.out.size))
    clear hb6 HEN HSC
    go_wp2
    go_ret
    exact ⟨rfl, HE.out⟩
  | some y =>
  obtain ⟨he0, hhs, hpa, hok⟩ := head_line hf
  obtain ⟨hnz, hsz⟩ := okS_sizes hok
  have HE0 := Lib.hid he0
  have HHS := Lib.hid hhs
  rw [show RhP tx w1 = fun e w' => e = .returned (rhV (headFrom tx)) ∧ Below w1.heap.size w1 w' from rfl, hf] at HRH
  clear he0 hhs hok
  go_wp2_with fail
  refine HRH.out.mono ?_
  rintro e w2 ⟨rfl, hb2⟩
  have hG2 := (G1.out.below hb2).new (scC y.no y.place y.set y.time (.slice none 0 0)) 29
  clear hb2 HRH G1
  rw [show rhV (some y) = .tuple #[.agg #[.string y.no, .int .i64 y.place, .string y.set, .int .i64 y.time, .slice none 0 0], .int .i64 0] from rfl]
  go_upto_region 4 with (fail)
  generalize hW : w2.alloc (.cells #[.string y.no, .int .i64 y.place, .string y.set, .int .i64 y.time, .slice none 0 0] 29) = w3
  have G3 := Lib.hid (show PvS W0 w.heap.size [(w2.heap.size, scC y.no y.place y.set y.time (.slice none 0 0), 29)] n1 w3 by rw [← hW]; exact hG2)
  have HHF := Lib.hid (HeadingFrom_c tx w3 (by omega) (HG.out _ _ _ G3.out).2.1 (HG.out _ _ _ G3.out).2.2)
  rw [show HfP tx w3 = fun e w' => e = .returned (hfV (headFrom tx)) ∧ Below w3.heap.size w3 w' from rfl, hf] at HHF
  clear hW hG2 hf
  generalize w2.heap.size = X1 at *
  go_wp2_with fail
  refine HHF.out.mono ?_
  rintro e w4 ⟨rfl, hb4⟩
  have hG4 := (G3.out.below hb4).new (scC y.no y.place y.set y.time (.slice none 0 0)) 29
  clear hb4 HHF G3
  rw [show hfV (some y) = .tuple #[.agg #[.string y.no, .int .i64 y.place, .string y.set, .int .i64 y.time, .slice none 0 0], .bool true] from rfl]
  go_upto_region 7 with (fail)
  generalize hW : w4.alloc (.cells #[.string y.no, .int .i64 y.place, .string y.set, .int .i64 y.time, .slice none 0 0] 29) = w5
  have G5 := Lib.hid (show PvS W0 w.heap.size [(w4.heap.size, scC y.no y.place y.set y.time (.slice none 0 0), 29), (X1, scC y.no y.place y.set y.time (.slice none 0 0), 29)] n1 w5 by rw [← hW]; exact hG4)
  clear hW hG4
  generalize w4.heap.size = X2 at *
  have HC1 := Lib.hid (fun (n : Int) (W : World) (hW : PvS W0 w.heap.size [(X2, scC y.no y.place y.set y.time (.slice none 0 0), 29), (X1, scC y.no y.place y.set y.time (.slice none 0 0), 29)] n W) => And.intro (sc_cells (hW.cell (p := (X1, scC y.no y.place y.set y.time (.slice none 0 0), 29)) (by simp))) (sc_cells (hW.cell (p := (X2, scC y.no y.place y.set y.time (.slice none 0 0), 29)) (by simp))))
  obtain ⟨⟨a0, a1, a2, a3, a4⟩, ⟨b0, b1, b2, b3, b4⟩⟩ := HC1.out _ _ G5.out
  have q1 : (y.no.toList == y.no.toList) = true := by simp
  have q2 : (y.set.toList == y.set.toList) = true := by simp
  have q3 : (y.place != y.place) = false := by simp
  have q4 : (y.time != y.time) = false := by simp
  have HHD := Lib.hid (Heading_c y none 0 0 w5 (by omega) (by omega) (HG.out _ _ _ G5.out).2.2)
  rw [show HgP y w5 = fun e w' => e = .returned (.tuple #[.string (hdV y), .int .i64 (headE y)]) ∧ Below w5.heap.size w5 w' from rfl, show hdV y = headS y from if_pos HE0.out, HE0.out, HHS.out] at HHD
  go_wp2_with fail
  refine HHD.out.mono ?_
  rintro e w6 ⟨rfl, hb6⟩
  have G6 := Lib.hid (G5.out.below hb6)
  clear hb6 HHD G5 a0 a1 a2 a3 a4 b0 b1 b2 b3 b4 q1 q2 q3 q4
  obtain ⟨_, ⟨b0, b1, b2, b3, b4⟩⟩ := HC1.out _ _ G6.out
  have hz6 := G6.out.size
  have hG7 := G6.out.alloc (.cells #[.string y.no, .int .i64 y.place, .string y.set, .int .i64 y.time, .slice none 0 0] 29)
  have hlay : Sli svR (w6.alloc (.cells #[.string y.no, .int .i64 y.place, .string y.set, .int .i64 y.time, .slice none 0 0] 29)) (fun q => q = w6.heap.size) [(y, .slice none 0 0)] (.slice (some ⟨w6.heap.size, 0, none⟩) 1 1) :=
    Sli.new (R := svR) (cs := [.string y.no, .int .i64 y.place, .string y.set, .int .i64 y.time, .slice none 0 0]) 29 1 (Lay.one (R := svR) (x := (y, .slice none 0 0)) rfl) rfl (Nat.le_refl _) (by decide)
  have HSP := SpoiledScriptM_c (F := fun q => q = w6.heap.size) w.heap.size 2001 1 n1 ⟨#[84]⟩ [(y, .slice none 0 0)] (.slice (some ⟨w6.heap.size, 0, none⟩) 1 1) _ hG7.str (by omega) hlay (fun z hz => by rw [List.mem_singleton] at hz; subst hz; show Sli paraR _ _ y.paras _; rw [hpa]; exact Sli.nil_) (fun q hq => ⟨by subst hq; simp, by omega⟩) (by decide) (Nat.le_refl _) (by decide) (fun z hz => by rw [List.mem_singleton] at hz; subst hz; exact ⟨by show y.no.size ≤ _; omega, by show y.set.size ≤ _; omega, by show y.paras.length ≤ _; rw [hpa]; exact Nat.zero_le _, fun p hp => by rw [show ((y, (Value.slice none 0 0)) : Scene × Value).1.paras = [] from hpa] at hp; cases hp⟩) (by decide) (by decide)
  have HSP := Lib.hid HSP
  have G7 := Lib.hid hG7
  clear hlay hG7
  go_wp2_with fail
  refine HSP.out.mono ?_
  rintro e w8 ⟨v8, n8, rfl, ⟨tz, lz, vz, rfl, hsz8, hpz8, htz, ⟨hlz1, hlz2⟩, hbz⟩, hn8, hs8, hg8⟩
  have hG8 := (G7.out.turn hg8 hs8).less (Q := []) (by simp)
  clear HSP G7 G6 hs8 b0 b1 b2 b3 b4
  obtain ⟨Az, cz, hvz, hcz1, hcz2⟩ := hsz8.form
  subst hvz
  have hlt8 : ∀ q, SpG (fun q => q = w6.heap.size) (w6.alloc (.cells #[.string y.no, .int .i64 y.place, .string y.set, .int .i64 y.time, .slice none 0 0] 29)) w8 q → q < w8.heap.size := fun q hq => by
    rcases hq with hq | hq
    · have h1 := hg8.size
      simp at h1
      omega
    · exact hq.2
  generalize SpG (fun q => q = w6.heap.size) (w6.alloc (.cells #[.string y.no, .int .i64 y.place, .string y.set, .int .i64 y.time, .slice none 0 0] 29)) w8 = F8 at *
  have hk0 : 0 < lz.length := Nat.lt_of_lt_of_le Nat.zero_lt_one hlz1
  obtain ⟨b, off, hA, hfb, c0, c1', c2, c3, c4⟩ := scAt hsz8 0 hk0
  subst hA
  have hmz := List.getElem_mem hk0
  obtain ⟨A0, n0, cc0, h40⟩ := sli_forms hpz8 _ hmz
  obtain ⟨hb1, hb2, _, _⟩ := hbz _ hmz
  rw [h40] at c4
  have hbw : b < w8.heap.size := hlt8 b hfb
  obtain ⟨Lz, hLz⟩ : ∃ Lz, lz.length = Lz := ⟨_, rfl⟩
  rw [hLz] at hk0 hcz1
  have hk0' : (0 : Int) < (Lz : Int) := by omega
  generalize lz[0] = z at *
  obtain ⟨x, u⟩ := z
  dsimp only at *
  have G9 := Lib.hid (hG8.new (xCs tz (.slice (some ⟨b, off, none⟩) Lz cz)) 40)
  rw [show xCs tz (.slice (some ⟨b, off, none⟩) lz.length cz) = #[.string tz, .slice (some ⟨b, off, none⟩) Lz cz] by rw [hLz]; rfl]
  rw [show off + 0 * 5 = off by omega] at c0 c1' c2 c3 c4
  have HCA := Lib.hid (fun (p : Addr) (hp : p.block < w8.heap.size) => World.cell?_alloc_lt w8 (.cells #[.string tz, .slice (some ⟨b, off, none⟩) Lz cz] 40) p hp)
  have e0 := (HCA.out ⟨b, off, none⟩ hbw).trans c0
  have e1 := (HCA.out ⟨b, off + 1, none⟩ hbw).trans c1'
  have e2 := (HCA.out ⟨b, off + 2, none⟩ hbw).trans c2
  have e3 := (HCA.out ⟨b, off + 3, none⟩ hbw).trans c3
  have e4 := (HCA.out ⟨b, off + 4, none⟩ hbw).trans c4
  clear hsz8 hpz8 hlt8 hfb hmz h40 hbz c0 c1' c2 c3 c4 hlz1 hlz2 hLz hG8 hg8 HCA
  go_upto_region 11 with (fail)
  generalize hW : w8.alloc (.cells #[.string tz, .slice (some ⟨b, off, none⟩) Lz cz] 40) = w9 at *
  have G9' := Lib.hid (show PvS W0 w.heap.size [(w8.heap.size, xCs tz (.slice (some ⟨b, off, none⟩) Lz cz), 40)] n8 w9 by rw [← hW]; exact G9.out)
  have z1 : w9.cell? ⟨w8.heap.size, 1, none⟩ = some (.slice (some ⟨b, off, none⟩) Lz cz) := (G9'.out.cell (p := (w8.heap.size, xCs tz (.slice (some ⟨b, off, none⟩) Lz cz), 40)) (by simp)).1 1
  clear hW G9
  have G10 := Lib.hid ((G9'.out.less (Q := []) (by simp)).new (scC x.no x.place x.set x.time (.slice A0 n0 cc0)) 29)
  go_upto_region 12 with (fail)
  generalize hW : w9.alloc (.cells #[.string x.no, .int .i64 x.place, .string x.set, .int .i64 x.time, .slice A0 n0 cc0] 29) = w10
  have G11 := Lib.hid (show PvS W0 w.heap.size [(w9.heap.size, scC x.no x.place x.set x.time (.slice A0 n0 cc0), 29)] n8 w10 by rw [← hW]; exact G10.out)
  clear hW G10 G9' z1 e0 e1 e2 e3 e4
  generalize w9.heap.size = V at *
  have HCV := Lib.hid (fun (W : World) (hW : PvS W0 w.heap.size [(V, scC x.no x.place x.set x.time (.slice A0 n0 cc0), 29)] n8 W) => sc_cells (hW.cell (p := (V, scC x.no x.place x.set x.time (.slice A0 n0 cc0), 29)) (by simp)))
  obtain ⟨y0, y1, y2, y3, y4⟩ := HCV.out _ G11.out
  have HH2 := Lib.hid (Heading_c x A0 n0 cc0 w10 (by omega) (by omega) (HG.out _ _ _ G11.out).2.2)
  go_wp2_with fail
  refine HH2.out.mono ?_
  rintro e w11 ⟨rfl, hb11⟩
  have G12 := Lib.hid (G11.out.below hb11)
  clear hb11 HH2 G11 y0 y1 y2 y3 y4
  obtain ⟨y0, y1, y2, y3, y4⟩ := HCV.out _ G12.out
  have HFF := Lib.hid (HeadFault_c x A0 n0 cc0 w11 (by omega) (by omega) (HG.out _ _ _ G12.out).2.1 (HG.out _ _ _ G12.out).2.2)
  have HOK := Lib.hid (show headE x = 0 → okS { x with paras := [] } ∧ hdV x = headS x from fun h => ⟨headE_ok (x := { x with paras := [] }) h rfl, if_pos h⟩)
  go_wp2_with fail
  refine HFF.out.mono ?_
  rintro e w12 ⟨rfl, hb12⟩
  have G13 := Lib.hid (G12.out.below hb12)
  clear hb12 HFF G12 y0 y1 y2 y3 y4
  obtain ⟨y0, y1, y2, y3, y4⟩ := HCV.out _ G13.out
  have HSC := Lib.hid (scripts_c w12 (HG.out _ _ _ G13.out).2.2)
  generalize headE x = hx at *
  generalize hdV x = dx at *
  go_wp2_with fail
  refine HSC.out.mono ?_
  rintro e w13 ⟨rfl, hb13⟩
  have G14 := Lib.hid (G13.out.below hb13)
  clear hb13 HSC G13 y0 y1 y2 y3 y4
  obtain ⟨y0, y1, y2, y3, y4⟩ := HCV.out _ G14.out
  have HEN := Lib.hid (HG.out _ _ _ G14.out).1
  have q1 : (tx.toList == tx.toList) = true := by simp
  have q2 : (hx == hx) = true := by simp
  by_cases h0 : hx = 0
  case neg =>
    have q3 : (hx != 0) = true := bne_iff_ne.2 h0
    clear h0
    go_wp2
    go_ret
    exact ⟨rfl, HEN.out⟩
  obtain ⟨hok2, hdd⟩ := HOK.out h0
  subst h0
  subst hdd
  have hpt := hok2.2.1
  have htt := hok2.2.2.1
  dsimp only at hpt htt
  have HHO := Lib.hid (HeadingOf_c x A0 n0 cc0 w13 (by omega) (by omega) ⟨by omega, by omega⟩ ⟨by omega, by omega⟩)
  have q3 : ((headS x).toList == (headS x).toList) = true := by simp
  clear hok2
  go_wp2_with fail
  refine HHO.out.mono ?_
  rintro e w14 ⟨rfl, hb14⟩
  have HE := Lib.hid (HEN.out.trans (hb14.mono HEN.out.size))
  clear hb14 HHO HEN
  go_wp2
  go_ret
  exact ⟨rfl, HE.out⟩
end Go.Proofs.YtihkkaeoijheoaaGreatDoor

