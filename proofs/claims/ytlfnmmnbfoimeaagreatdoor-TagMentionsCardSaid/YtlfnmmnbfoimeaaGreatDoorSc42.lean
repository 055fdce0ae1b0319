/- Texts packed: MnN. -/
import Derived.Test.YtlfnmmnbfoimeaaGreatDoorSc38
import Derived.Test.YtlfnmmnbfoimeaaGreatDoorSc02
import Derived.Test.YtlfnmmnbfoimeaaGreatDoorSc41
import Derived.Test.YtlfnmmnbfoimeaaGreatDoorSc35
/- R.MentionsOf, walked. -/
namespace Go.Proofs.YtlfnmmnbfoimeaaGreatDoor
set_option linter.unusedVariables false
open Go.RowKit Go.Sort

theorem ruM_len2 {rs : List Rul} {i k : Nat} {set : ByteArray} {p : Para} (hp : p.text.size ≤ 2000) (n : Nat) : (ruM rs i k set p n).length ≤ 2001 := ruM_len hp n
theorem ab_bool {x : Rul} {set : ByteArray} {kind : Int} {K : List Int} (hK : K = if x.kinds.length = 0 then [1, 3, 4, 5] else x.kinds) (h1 : 1 ≤ kind) (h5 : kind ≤ 5) : apB x set kind = (decide (kind ∈ K) && !(!decide (x.set = ⟨#[]⟩) && !decide (x.set = set))) := by
  rw [hK]; exact apB_ref h1 h5
set_option maxRecDepth 100000 in
set_option maxHeartbeats 16000000 in
theorem MentionsOf_c {F F2 : Nat → Prop} (t : ByteArray) (ls : List (Scene × Value)) (v : Value) (rl : List (Rul × Value)) (rv : Value) (w : World) (h : ScL w F t ls v) (hr : RuW w F2 rl rv) (hm : MaxLaid w) (hE : ErrsLaid w) (hsp : SpLaid w) :
    Calls Tryz.prog 9 #[.agg #[.string t, v], rv] w (MenP ⟨t, ls.map (·.1)⟩ (rl.map (·.1)) w) := by
  obtain ⟨A, c, rfl, hlc, hcm⟩ := h.sli.form
  obtain ⟨A2, c2, rfl, hlc2, hcm2⟩ := hr.sli.form
  obtain ⟨i0, hi0, hz0, hz1, hz2⟩ := info_parts (show (Tryz.prog.info? 40).map (fun i => (i.zero, i.size, i.bytes)) = some (some (.agg #[.int .i64 0, .int .i64 0, .int .i64 0, .int .i64 0, .int .i64 0, .int .i64 0]), 6, 48) by kernel_rfl)
  obtain ⟨n, hn⟩ : ∃ n, ls.length = n := ⟨_, rfl⟩
  obtain ⟨R, hR⟩ : ∃ R, rl.length = R := ⟨_, rfl⟩
  obtain ⟨rs, hrs⟩ : ∃ rs, rl.map (·.1) = rs := ⟨_, rfl⟩
  obtain ⟨sc, hsc⟩ : ∃ sc, ls.map (·.1) = sc := ⟨_, rfl⟩
  have HN := Lib.hid hn
  have HRR := Lib.hid hR
  have HRS := Lib.hid hrs
  have HSC := Lib.hid hsc
  have HRL := Lib.hid (show rs.length = R by rw [← hrs, List.length_map]; exact hR)
  have HSL := Lib.hid (show sc.length = n by rw [← hsc, List.length_map]; exact hn)
  have HSW := Lib.hid (fun (W : World) (hb : Below w.heap.size w W) => h.below hb)
  have HRW := Lib.hid (fun (W : World) (hb : Below w.heap.size w W) => hr.below hb)
  have HLD := Lib.hid (fun (W : World) (h : Below w.heap.size w W) => show MaxLaid W ∧ ErrsLaid W ∧ SpLaid W from ⟨max_below hm h (Nat.le_refl _), hE.below h (Nat.le_refl _), sp_below hsp h (Nat.le_refl _)⟩)
  have HCK := Lib.hid (fun (W : World) (hb : Below w.heap.size w W) => show Calls Tryz.prog 31 #[.agg #[.string t, .slice A n c]] W (StP ⟨t, sc⟩ W) from by
    have h1 := StoryFault_c t ls (.slice A ls.length c) W (h.below hb) (sp_below hsp hb (Nat.le_refl _)) (max_below hm hb (Nat.le_refl _))
    rw [hn, hsc] at h1
    exact h1)
  have HCR := Lib.hid (fun (W : World) (hb : Below w.heap.size w W) => show Calls Tryz.prog 7 #[.slice A2 R c2] W (RusP rs W) from by
    have h1 := TagRulesFault_c rl (.slice A2 rl.length c2) W (hr.below hb) (max_below hm hb (Nat.le_refl _)) (sp_below hsp hb (Nat.le_refl _))
    rw [hR, hrs] at h1
    exact h1)
  have hrlen := hr.len
  have hslen := h.len
  rw [hn] at hlc hslen ⊢
  rw [hR] at hlc2 hrlen ⊢
  rw [hrs, hsc]
  have HB1 := Lib.hid ((Below.refl w.heap.size w).alloc (Nat.le_refl _) (.cells #[.string t, .slice A n c] 28))
  have hx1 := heap_alloc_new w (.cells #[.string t, .slice A n c] 28)
  have hs1 : (w.alloc (.cells #[.string t, .slice A n c] 28)).heap.size = w.heap.size + 1 := by simp
  clear h hr hm hE hsp hn hR hrs hsc
  go_enter Tryz.func9, Tryz.ntmps9
  go_upto_region 1 with (fail)
  generalize w.alloc (.cells #[.string t, .slice A n c] 28) = w1 at *
  have HXC := Lib.hid (fun (W : World) (hb : Below w1.heap.size w1 W) => show W.cell? ⟨w.heap.size, 0, none⟩ = some (.string t) ∧ W.cell? ⟨w.heap.size, 1, none⟩ = some (.slice A n c) from by
    obtain ⟨y, _⟩ := str_cells ((hb.block w.heap.size (by omega)).trans hx1)
    exact ⟨y 0, y 1⟩)
  clear hx1 hs1
  obtain ⟨x0, x1⟩ := HXC.out w1 (Below.refl _ _)
  go_wp2_with fail
  refine (HCK.out w1 HB1.out).mono ?_
  rintro e w2 ⟨rfl, hb2⟩
  have HK2 := Lib.hid hb2
  have HB2 := Lib.hid (HB1.out.trans (hb2.mono HB1.out.size))
  clear hb2 x0 x1 HCK
  go_wp2_with fail
  refine (HCR.out w2 HB2.out).mono ?_
  rintro e w3 ⟨rfl, hb3⟩
  have hK3 := HK2.out.trans (hb3.mono HK2.out.size)
  have hB3 := HB2.out.trans (hb3.mono HB2.out.size)
  obtain ⟨ea, hea⟩ : ∃ ea, stE ⟨t, sc⟩ = ea := ⟨_, rfl⟩
  obtain ⟨eb, heb⟩ : ∃ eb, rulesE rs = eb := ⟨_, rfl⟩
  rw [hea, heb]
  have HEA := Lib.hid hea
  have HEB := Lib.hid heb
  have HK4 := Lib.hid (hK3.alloc hK3.size (.cells #[.int .i64 ea, .int .i64 eb] 32))
  have HB4 := Lib.hid (hB3.alloc hB3.size (.cells #[.int .i64 ea, .int .i64 eb] 32))
  obtain ⟨y, _⟩ := str_cells (heap_alloc_new w3 (.cells #[.int .i64 ea, .int .i64 eb] 32))
  have HOR := Lib.hid (orE_c ea eb w3.heap.size 2 (w3.alloc (.cells #[.int .i64 ea, .int .i64 eb] 32)) (y 0) (y 1))
  clear hb3 HCR HB1 HB2 HK2 hK3 hB3 hea heb y
  go_wp2_with fail
  refine HOR.out.mono ?_
  rintro e w4 ⟨rfl, rfl⟩
  generalize w3.alloc (.cells #[.int .i64 ea, .int .i64 eb] 32) = w4 at *
  clear HOR
  by_cases hE0 : orE ea eb = 0
  case neg =>
    have hne : (orE ea eb != 0) = true := by rw [bne_iff_ne]; exact hE0
    have hme : menE ⟨t, sc⟩ rs = orE ea eb := by
      by_cases h1 : ea = 0
      · have h2 : orE ea eb = eb := if_pos h1
        rw [h2] at hE0 ⊢
        rw [menE_ru (by rw [HEA.out]; exact h1) (by rw [HEB.out]; exact hE0)]
        exact HEB.out
      · have h2 : orE ea eb = ea := if_neg h1
        rw [h2, menE_st (by rw [HEA.out]; exact h1)]
        exact HEA.out
    have HR := Lib.hid (fun (W : World) (hb : Below w.heap.size w W) => MenP.bad (x := ⟨t, sc⟩) (rs := rs) hme hE0 hb)
    clear hE0 hme
    generalize orE ea eb = z at *
    go_wp2
    go_ret2
    exact HR.out _ HB4.out
  have hea : ea = 0 := by
    by_cases h1 : ea = 0
    · exact h1
    · have h2 : orE ea eb = ea := if_neg h1
      rw [h2] at hE0
      exact absurd hE0 h1
  subst hea
  have heb : eb = 0 := by
    have h2 : orE 0 eb = eb := if_pos rfl
    rw [h2] at hE0
    exact hE0
  subst heb
  rw [hE0]
  clear hE0
  have HPA := Lib.hid (stE_paras HEA.out)
  have HOK := Lib.hid (rulesE_ok HEB.out)
  have hR200 : R ≤ 200 := by have := HOK.out.1; rw [HRL.out] at this; exact this
  have hn300 : n ≤ 300 := by have := HPA.out.1; rw [show (⟨t, sc⟩ : Script).scenes = sc from rfl, HSL.out] at this; exact this
  have HBA := Lib.hid (fun (W : World) (hb : Below w4.heap.size w4 W) => HB4.out.trans (hb.mono HB4.out.size))
  have hsml := fun i => scM_len (rs := rs) (sc := sc) (M := 2000) (Q := 4000) (fun x hx => ⟨(HPA.out.2 x hx).1, fun p hp => ((HPA.out.2 x hx).2 p hp).2.2⟩) i
  have HSM := Lib.hid (fun i => show (scM rs sc i).length ≤ 1600800000 from by have h1 := hsml i; rw [HRL.out] at h1; omega)
  obtain ⟨x0, x1⟩ := HXC.out w4 HK4.out
  clear HXC HK4 hsml
  go_wp2
  go_loopw [7, 29] (fun ov iv wr => ∃ q : Nat, q ≤ n ∧ iv = .int .i64 q ∧ Hid (BO mnR 40 w4 (fm (scM rs sc) q) ov [] wr)) (fun _ iv _ => n - (intOf iv).toNat)
  case atStart => exact ⟨0, Nat.zero_le _, rfl, Lib.hid (BO.start w4)⟩
  case round =>
    clear x0 x1
    obtain ⟨q, hq, rfl, HG⟩ := hrel
    have hql := fmM_len (f := scM rs sc) (M := 1600800000) (n := q) (fun k _ => HSM.out k)
    by_cases hlt : q < n
    · have hil : q < ls.length := by rw [HN.out]; exact hlt
      have hic : q < sc.length := by rw [HSL.out]; exact hlt
      have hSx := HSW.out wr (HBA.out wr HG.out.bel)
      obtain ⟨bs, of2, rfl, hfbs, s0, s1, s2, s3, s4⟩ := scAt hSx.sli q hil
      obtain ⟨A5, c5, h5, hlc5, hcm5⟩ := (hSx.par _ (List.getElem_mem hil)).form
      have hse : (ls[q]'hil).1 = sc[q]'hic := by simp only [← HSC.out, List.getElem_map]
      rw [hse] at h5 hlc5 s0 s1 s2 s3
      rw [h5] at s4
      have HPS := Lib.hid (fun (W : World) (hb : Below w.heap.size w W) => show Sli paraR W F (sc[q]'hic).paras (.slice A5 (sc[q]'hic).paras.length c5) ∧ ∀ b, F b → b < W.heap.size from ⟨by
        have h1 := (HSW.out W hb).par _ (List.getElem_mem hil)
        rw [h5, hse] at h1
        exact h1, (HSW.out W hb).lt⟩)
      have HPM := Lib.hid (HPA.out.2 _ (List.getElem_mem hic))
      have HNX := Lib.hid (show fm (scM rs sc) (q + 1) = fm (scM rs sc) q ++ fm (paM rs q (sc[q]'hic)) (sc[q]'hic).paras.length by rw [fm_succ, scM_at hic])
      have hpml := fun k => paM_len (rs := rs) (i := q) (x := sc[q]'hic) (M := 2000) (fun p hp => ((HPA.out.2 _ (List.getElem_mem hic)).2 p hp).2.2) k
      have HPL := Lib.hid (fun k => show (paM rs q (sc[q]'hic) k).length ≤ 400200 from by have h1 := hpml k; rw [HRL.out] at h1; omega)
      generalize (sc[q]'hic) = s at *
      obtain ⟨np, hnp⟩ : ∃ np, s.paras.length = np := ⟨_, rfl⟩
      have HNP := Lib.hid hnp
      rw [hnp] at s4 hlc5 HPS HNX
      have hnp4 : np ≤ 4000 := by have := HPM.out.1; rw [hnp] at this; exact this
      have hG5 := HG.out.new #[.string s.no, .int .i64 s.place, .string s.set, .int .i64 s.time, .slice A5 np c5] 66
      generalize fm (scM rs sc) q = cur0 at *
      clear h5 hse hSx hnp HG hpml
      go_upto_region 8 with (fail)
      generalize hW : wr.alloc (.cells #[.string s.no, .int .i64 s.place, .string s.set, .int .i64 s.time, .slice A5 np c5] 66) = w5 at *
      generalize wr.heap.size = X at *
      have G5 := Lib.hid hG5
      clear hG5 hW s0 s1 s2 s3 s4
      have HXS := Lib.hid (fun (P : List (Nat × Array Value × TypeId)) (l : List Mnt) (v : Value) (W : World) (h : BO mnR 40 w4 l v P W) (hp : (X, (#[.string s.no, .int .i64 s.place, .string s.set, .int .i64 s.time, .slice A5 np c5] : Array Value), 66) ∈ P) => show W.cell? ⟨X, 2, none⟩ = some (.string s.set) ∧ W.cell? ⟨X, 4, none⟩ = some (.slice A5 np c5) from by
        obtain ⟨y, _⟩ := h.cell hp
        exact ⟨y 2, y 4⟩)
      obtain ⟨s2, s4⟩ := HXS.out _ _ _ _ G5.out (by simp)
      go_wp2
      go_loopw [7, 37] (fun ov iv wr => ∃ j : Nat, j ≤ np ∧ iv = .int .i64 j ∧ Hid (BO mnR 40 w4 (cur0 ++ fm (paM rs q s) j) ov [(X, #[.string s.no, .int .i64 s.place, .string s.set, .int .i64 s.time, .slice A5 np c5], 66)] wr)) (fun _ iv _ => np - (intOf iv).toNat)
      case atStart => exact ⟨0, Nat.zero_le _, rfl, by rw [fm_zero, List.append_nil]; exact G5⟩
      case round =>
        clear s2 s4 G5
        obtain ⟨j, hj, rfl, HG⟩ := hrel
        by_cases hjlt : j < np
        · have hjp : j < s.paras.length := by rw [HNP.out]; exact hjlt
          obtain ⟨hSP, hFl⟩ := HPS.out wr (HBA.out wr HG.out.bel)
          obtain ⟨bp, op, rfl, hfbp, p0, p1⟩ := paraAt hSP j hjp
          obtain ⟨hpk1, hpk5, hpz⟩ := HPM.out.2 _ (List.getElem_mem hjp)
          have HNX2 := Lib.hid (show fm (paM rs q s) (j + 1) = fm (paM rs q s) j ++ fm (ruM rs q j s.set (s.paras[j]'hjp)) rs.length by rw [fm_succ, paM_at hjp])
          generalize (s.paras[j]'hjp) = p at *
          have hG6 := HG.out.new #[.int .i64 p.kind, .string p.text] 68
          have HCC := Lib.hid (show cur0 ++ fm (paM rs q s) (j + 1) = (cur0 ++ fm (paM rs q s) j) ++ fm (ruM rs q j s.set p) R by rw [HNX2.out, HRL.out, List.append_assoc])
          have hc1l : (cur0 ++ fm (paM rs q s) j).length ≤ 482000000000 := by
            have h1 := fmM_len (f := paM rs q s) (M := 400200) (n := j) (fun k _ => HPL.out k)
            rw [List.length_append]
            omega
          generalize cur0 ++ fm (paM rs q s) j = cur1 at *
          clear hSP hFl hfbp HG HNX2
          go_upto_region 11 with (fail)
          generalize hW : wr.alloc (.cells #[.int .i64 p.kind, .string p.text] 68) = w6 at *
          generalize wr.heap.size = Y at *
          have G6 := Lib.hid hG6
          clear hG6 hW p0 p1
          have HXP := Lib.hid (fun (P : List (Nat × Array Value × TypeId)) (l : List Mnt) (v : Value) (W : World) (h : BO mnR 40 w4 l v P W) (hp : (Y, (#[.int .i64 p.kind, .string p.text] : Array Value), 68) ∈ P) => show W.cell? ⟨Y, 0, none⟩ = some (.int .i64 p.kind) ∧ W.cell? ⟨Y, 1, none⟩ = some (.string p.text) from by
            obtain ⟨y, _⟩ := h.cell hp
            exact ⟨y 0, y 1⟩)
          go_wp2
          go_loopw [7, 44] (fun ov iv wr => ∃ i : Nat, i ≤ R ∧ iv = .int .i64 i ∧ Hid (BO mnR 40 w4 (cur1 ++ fm (ruM rs q j s.set p) i) ov [(Y, #[.int .i64 p.kind, .string p.text], 68), (X, #[.string s.no, .int .i64 s.place, .string s.set, .int .i64 s.time, .slice (some ⟨bp, op, none⟩) np c5], 66)] wr)) (fun _ iv _ => R - (intOf iv).toNat)
          case atStart => exact ⟨0, Nat.zero_le _, rfl, by rw [fm_zero, List.append_nil]; exact G6⟩
          case round =>
            clear G6
            obtain ⟨i, hi, rfl, HG⟩ := hrel
            by_cases hilt : i < R
            · have hkl : i < rl.length := by rw [HRR.out]; exact hilt
              have hkr : i < rs.length := by rw [HRL.out]; exact hilt
              have hWr := HRW.out wr (HBA.out wr HG.out.bel)
              obtain ⟨b, off, rfl, hfb, c0, c1, c2, c3, c4⟩ := ruAt hWr.sli i hkl
              obtain ⟨A4, cc4, h4, hlc4, hcm4⟩ := (hWr.kds _ (List.getElem_mem hkl)).form
              have hxe : (rl[i]'hkl).1 = rs[i]'hkr := by simp only [← HRS.out, List.getElem_map]
              have hz := (hWr.bd _ (List.getElem_mem hkl)).2
              have HKD := Lib.hid (fun (W : World) (hb : Below w.heap.size w W) => show Sli intR W F2 (rs[i]'hkr).kinds (.slice A4 (rs[i]'hkr).kinds.length cc4) ∧ ∀ b, F2 b → b < W.heap.size from ⟨by
                have h1 := (HRW.out W hb).kds _ (List.getElem_mem hkl)
                rw [h4, hxe] at h1
                exact h1, (HRW.out W hb).lt⟩)
              rw [hxe] at h4 c0 c1 c2 c4 hz hlc4
              rw [h4] at c3
              have hpt := ruE_pat (HOK.out.2 _ (List.getElem_mem hkr))
              have HYES := Lib.hid (fun (h : apB (rs[i]'hkr) s.set p.kind = true) => (show fm (ruM rs q j s.set p) (i + 1) = fm (ruM rs q j s.set p) i ++ (hitsP (rs[i]'hkr).pat p.text).map (mnOf i q j (partsP (rs[i]'hkr).pat).length) by rw [fm_succ, ruM_yes hkr h]))
              have HNO := Lib.hid (fun (h : apB (rs[i]'hkr) s.set p.kind = false) => (show fm (ruM rs q j s.set p) (i + 1) = fm (ruM rs q j s.set p) i by rw [fm_succ, ruM_no hkr h, List.append_nil]))
              generalize (rs[i]'hkr) = x at *
              have HPT := Lib.hid hpt
              obtain ⟨kl, hkl4⟩ : ∃ kl, x.kinds.length = kl := ⟨_, rfl⟩
              have HKL := Lib.hid hkl4
              rw [hkl4] at c3 hlc4 HKD
              have hkl1 : kl ≤ 1000 := by rw [← hkl4]; exact hz.2.2
              have hG8 := HG.out.new #[.int .i64 x.kind, .string x.name, .string x.pat, .slice A4 kl cc4, .string x.set] 50
              have hfl := fmM_len (f := ruM rs q j s.set p) (M := 2001) (n := i) (fun k _ => ruM_len2 hpz k)
              clear h4 hxe hWr hkl4 HG hpt
              go_upto_region 14 with (fail)
              generalize wr.alloc (.cells #[.int .i64 x.kind, .string x.name, .string x.pat, .slice A4 kl cc4, .string x.set] 50) = w8 at *
              generalize wr.heap.size = Z at *
              have HXR := Lib.hid (fun (P : List (Nat × Array Value × TypeId)) (l : List Mnt) (v : Value) (W : World) (h : BO mnR 40 w4 l v P W) (hp : (Z, (#[.int .i64 x.kind, .string x.name, .string x.pat, .slice A4 kl cc4, .string x.set] : Array Value), 50) ∈ P) => show W.cell? ⟨Z, 1, none⟩ = some (.string x.name) ∧ W.cell? ⟨Z, 2, none⟩ = some (.string x.pat) ∧ W.cell? ⟨Z, 3, none⟩ = some (.slice A4 kl cc4) ∧ W.cell? ⟨Z, 4, none⟩ = some (.string x.set) from by
                obtain ⟨y, _⟩ := h.cell hp
                exact ⟨y 1, y 2, y 3, y 4⟩)
              have G8 := Lib.hid hG8
              clear hG8 c0 c1 c2 c3 c4
              obtain ⟨z1, z2, z3, z4⟩ := HXR.out _ _ _ _ G8.out (by simp)
              generalize fm (ruM rs q j s.set p) i = fi at *
              go_upto_if 53 with (fail)
              go_cut [14] (fun s14 wx => ∃ (A9 : Option Addr) (K : List Int) (c9 : Nat) (F9 : Nat → Prop), s14 = .slice A9 K.length c9 ∧ Hid (Sli intR wx F9 K (.slice A9 K.length c9)) ∧ Hid (∀ b, F9 b → b < wx.heap.size) ∧ K.length ≤ 1000 ∧ Hid (K = if kl = 0 then [1, 3, 4, 5] else x.kinds) ∧ Hid (Below w8.heap.size w8 wx))
              case first =>
                by_cases hk0 : kl = 0
                · subst hk0
                  have hrow := Lib.hid (kdRow w8 3)
                  have HBX := Lib.hid ((Below.refl w8.heap.size w8).alloc (Nat.le_refl _) (.cells #[.int .i64 1, .int .i64 3, .int .i64 4, .int .i64 5] 3))
                  go_wp2
                  go_meet
                  exact ⟨_, [1, 3, 4, 5], 4, fun b => b = w8.heap.size, rfl, hrow, Lib.hid (fun b hb => by rw [hb]; simp), by decide, Lib.hid (by simp), HBX⟩
                · have hk0b : ((kl : Int) == 0) = false := beq_eq_false_iff_ne.2 (by omega)
                  have HKX := Lib.hid (HKD.out w8 (HBA.out w8 G8.out.bel))
                  have HK9 := Lib.hid (show x.kinds = if kl = 0 then [1, 3, 4, 5] else x.kinds by rw [if_neg hk0])
                  clear hk0
                  go_wp2
                  go_meet
                  exact ⟨A4, x.kinds, cc4, F2, by rw [HKL.out], by rw [HKL.out]; exact Lib.hid HKX.out.1, Lib.hid HKX.out.2, by rw [HKL.out]; exact hkl1, HK9, Lib.hid (Below.refl _ _)⟩
              case rest =>
              clear z1 z2 z3 z4
              obtain ⟨A9, K, c9, F9, rfl, HKS, HKF, hK1, HKE, HBC⟩ := hcut
              have HG9 := Lib.hid (G8.out.below HBC.out)
              have hab := ab_bool (x := x) (set := s.set) (kind := p.kind) (K := K) (by rw [HKE.out, HKL.out]) hpk1 hpk5
              have HAB := Lib.hid hab
              have HCI := Lib.hid (contInt_c K (.slice A9 K.length c9) p.kind wc HKS.out HKF.out (by omega))
              clear hab HKE HBC G8 HKD
              obtain ⟨z1, z2, z3, z4⟩ := HXR.out _ _ _ _ HG9.out (by simp)
              obtain ⟨p0, p1⟩ := HXP.out _ _ _ _ HG9.out (by simp)
              obtain ⟨s2, s4⟩ := HXS.out _ _ _ _ HG9.out (by simp)
              obtain ⟨bb, hbb⟩ : ∃ bb, decide (p.kind ∈ K) = bb := ⟨_, rfl⟩
              rw [hbb] at HAB HCI
              generalize K.length = kln at *
              clear hbb HKS HKF
              obtain ⟨ab, hab⟩ : ∃ ab, apB x s.set p.kind = ab := ⟨_, rfl⟩
              rw [hab] at HYES HNO HAB
              clear hab
              go_upto_region 17 with (fail)
              go_cut [71] (fun s71 wx => s71 = .bool (!ab) ∧ Hid (Below wc.heap.size wc wx))
              case first =>
                clear HYES HNO HG9 HXR HXP HXS
                cases bb with
                | false =>
                  have hv : ab = false := by rw [HAB.out]; rfl
                  subst hv
                  go_wp2_with fail
                  refine HCI.out.mono ?_
                  rintro e w9 ⟨rfl, hb9⟩
                  have HB9 := Lib.hid hb9
                  clear hb9 HCI z1 z2 z3 z4 p0 p1 s2 s4
                  go_wp2
                  go_meet
                  exact ⟨rfl, by first | exact HB9 | exact Lib.hid HB9.out.drew | exact Lib.hid (below_drewN HB9.out _)⟩
                | true =>
                  go_wp2_with fail
                  refine HCI.out.mono ?_
                  rintro e w9 ⟨rfl, hb9⟩
                  have HB9 := Lib.hid hb9
                  have z4 : w9.cell? ⟨Z, 4, none⟩ = some (.string x.set) := (cell_of_heap (hb9.block Z (World.block_lt_of_cell? _ _ z4))).trans z4
                  have s2 : w9.cell? ⟨X, 2, none⟩ = some (.string s.set) := (cell_of_heap (hb9.block X (World.block_lt_of_cell? _ _ s2))).trans s2
                  clear hb9 HCI z1 z2 z3 p0 p1 s4
                  cases he : x.set.toList.isEmpty with
                  | true =>
                    have hv : ab = true := by rw [HAB.out, decide_eq_true ((empty_iff _).1 he)]; rfl
                    subst hv
                    first | go_quiet (fail) | skip
                    go_wp2
                    go_meet
                    exact ⟨rfl, by first | exact HB9 | exact Lib.hid HB9.out.drew | exact Lib.hid (below_drewN HB9.out _)⟩
                  | false =>
                    have hne : ¬ x.set = ⟨#[]⟩ := fun e => by rw [(empty_iff _).2 e] at he; cases he
                    by_cases hqs : x.set = s.set
                    · have hv : ab = true := by rw [HAB.out, decide_eq_true hqs]; simp
                      subst hv
                      rw [hqs] at z4 he
                      clear hne hqs
                      first | go_quiet (fail) | skip
                      go_wp2
                      go_meet
                      exact ⟨rfl, by first | exact HB9 | exact Lib.hid HB9.out.drew | exact Lib.hid (below_drewN HB9.out _)⟩
                    · have hv : ab = false := by rw [HAB.out, decide_eq_false hqs, decide_eq_false hne]; rfl
                      subst hv
                      have q2 := beq_ne (a := x.set) (b := s.set) hqs
                      have q2' : ¬ x.set.toList = s.set.toList := by simpa using q2
                      clear hne hqs
                      first | go_quiet (fail) | skip
                      go_wp2
                      go_meet
                      exact ⟨rfl, by first | exact HB9 | exact Lib.hid HB9.out.drew | exact Lib.hid (below_drewN HB9.out _)⟩
              case rest =>
              obtain ⟨rfl, HBD⟩ := hcut
              have HGA := Lib.hid (HG9.out.below HBD.out)
              clear HBD HG9 HCI HAB z1 z2 z3 z4 p0 p1 s2 s4
              cases ab with
              | false =>
                have HNOb := Lib.hid (HNO.out rfl)
                have HGL := Lib.hid (HGA.out.less (Q := [(Y, #[.int .i64 p.kind, .string p.text], 68), (X, #[.string s.no, .int .i64 s.place, .string s.set, .int .i64 s.time, .slice (some ⟨bp, op, none⟩) np c5], 66)]) (fun r hr => List.mem_cons_of_mem _ hr))
                clear HYES HNO HGA
                go_wp2
                go_roundw
                case rel => exact ⟨i + 1, by omega, intNum, by rw [HNOb.out]; exact HGL⟩
                case measure => simp [intOf]; omega
              | true =>
                have HYESb := Lib.hid (HYES.out rfl)
                obtain ⟨z1, z2, z3, z4⟩ := HXR.out _ _ _ _ HGA.out (by simp)
                obtain ⟨p0, p1⟩ := HXP.out _ _ _ _ HGA.out (by simp)
                obtain ⟨hmx, her, hspl⟩ := HLD.out _ (HBA.out _ HGA.out.bel)
                have HMO := Lib.hid (MatchOf_c x.pat p.text _ (by omega) (by omega) HPT.out hmx her hspl)
                rw [show hitsAt (itmsP x.pat) (wordsT p.text) 0 = hitsP x.pat p.text from rfl] at HMO
                have hhl := hitsP_len x.pat p.text
                generalize hitsP x.pat p.text = hl at *
                generalize (partsP x.pat).length = ni at *
                clear HNO HYES hmx her hspl
                go_wp2_with fail
                refine HMO.out.mono ?_
                rintro e wA ⟨hv, rfl, hownA, hbA⟩
                have GA := Lib.hid ((HGA.out.below hbA).less (Q := [(Y, #[.int .i64 p.kind, .string p.text], 68), (X, #[.string s.no, .int .i64 s.place, .string s.set, .int .i64 s.time, .slice (some ⟨bp, op, none⟩) np c5], 66)]) (fun r hr => List.mem_cons_of_mem _ hr))
                have HIA := Lib.hid (hownA.sliF (F := fun b => wc.heap.size ≤ b ∧ b < wA.heap.size) (fun b hb => hownA.block b hb))
                have HKH := Lib.hid (show KeepW wc.heap.size wA u7 wA from ⟨fun _ _ _ => rfl, fun g hg => .inl (HGA.out.own.block g hg).2, Nat.le_refl _⟩)
                obtain ⟨A9, c9, rfl, hlc9, hcm9⟩ := HIA.out.form
                obtain ⟨hn, hhn⟩ : ∃ hn, hl.length = hn := ⟨_, rfl⟩
                have HHN := Lib.hid hhn
                rw [hhn] at HIA hlc9 hhl ⊢
                have hc2l : (cur1 ++ fi).length ≤ 490000000000 := by
                  rw [List.length_append]
                  omega
                have HC2 := Lib.hid (show ∀ L2, L2 = hl → cur1 ++ fm (ruM rs q j s.set p) (i + 1) = (cur1 ++ fi) ++ L2.map (mnOf i q j ni) from fun L2 h2 => by rw [HYESb.out, h2, List.append_assoc])
                generalize cur1 ++ fi = cur2 at *
                clear hownA hbA HGA HMO hhn HYESb hfl z1 z2 z3 z4 p0 p1
                go_wp2
                go_loopw [7, 78] (fun ov iv wr => ∃ h : Nat, h ≤ hn ∧ iv = .int .i64 h ∧ Hid (BO mnR 40 w4 (cur2 ++ (hl.take h).map (mnOf i q j ni)) ov [(Y, #[.int .i64 p.kind, .string p.text], 68), (X, #[.string s.no, .int .i64 s.place, .string s.set, .int .i64 s.time, .slice (some ⟨bp, op, none⟩) np c5], 66)] wr) ∧ Hid (KeepW wc.heap.size wA ov wr)) (fun _ iv _ => hn - (intOf iv).toNat)
                case atStart => exact ⟨0, Nat.zero_le _, rfl, by rw [List.take_zero, List.map_nil, List.append_nil]; exact GA, HKH⟩
                case round =>
                  clear GA HKH
                  obtain ⟨h, hh, rfl, HG, HKH⟩ := hrel
                  by_cases hhlt : h < hn
                  · have hhl2 : h < hl.length := by rw [HHN.out]; exact hhlt
                    obtain ⟨bh, oh, rfl, hfh, e0, e1, e2⟩ := hitAt_cells (HIA.out.keep (fun b hb => HKH.out.1 b hb.1 hb.2)) h hhl2
                    have HTK := Lib.hid (show cur2 ++ (hl.take (h + 1)).map (mnOf i q j ni) = (cur2 ++ (hl.take h).map (mnOf i q j ni)) ++ [mnOf i q j ni (hl[h]'hhl2)] by rw [List.take_succ_eq_append_getElem hhl2, List.map_append, List.append_assoc]; rfl)
                    generalize (hl[h]'hhl2) = y at *
                    obtain ⟨ya, yc⟩ := y
                    dsimp only at e0 e1 e2
                    have hccl : (cur2 ++ (hl.take h).map (mnOf i q j ni)).length ≤ 495000000000 := by
                      rw [List.length_append, List.length_map, List.length_take]; omega
                    obtain ⟨qn, hqn⟩ : ∃ qn, (cur2 ++ (hl.take h).map (mnOf i q j ni)).length = qn := ⟨_, rfl⟩
                    have HQ := Lib.hid hqn
                    rw [hqn] at hccl
                    generalize cur2 ++ (hl.take h).map (mnOf i q j ni) = cc at *
                    have hG9 := HG.out.alloc (.cells #[.int .i64 (ya : Int), .int .i64 (ni : Int), .int .i64 yc] 75)
                    have hba := (Below.refl _ wr).alloc (Nat.le_refl _) (.cells #[.int .i64 (ya : Int), .int .i64 (ni : Int), .int .i64 yc] 75)
                    have hKH9 := HKH.out.below hba
                    have hx9 := heap_alloc_new wr (.cells #[.int .i64 (ya : Int), .int .i64 (ni : Int), .int .i64 yc] 75)
                    clear hqn HG HKH hba
                    go_upto_region 21 with (fail)
                    generalize wr.alloc (.cells #[.int .i64 (ya : Int), .int .i64 (ni : Int), .int .i64 yc] 75) = wB at *
                    obtain ⟨y, _⟩ := str_cells hx9
                    have g0 : wB.cell? ⟨wr.heap.size, 0, none⟩ = some (.int .i64 (ya : Int)) := y 0
                    have g1 : wB.cell? ⟨wr.heap.size, 1, none⟩ = some (.int .i64 (ni : Int)) := y 1
                    have g2 : wB.cell? ⟨wr.heap.size, 2, none⟩ = some (.int .i64 yc) := y 2
                    have GB := Lib.hid hG9
                    have HKHB := Lib.hid hKH9
                    clear y hx9 hG9 hKH9 e0 e1 e2
                    go_wp2_with (at_builtin; (refine wpList_pushB (R := mnR) rfl _ _ _ rfl w4.heap.size w4.heap.size 40 i0 _ 48 Tryz.underlying34 hi0 hz0 hz1 hz2 rfl (by decide) _ u7 cc rfl (GB.out.own.alloc _) (⟨i, q, j, ya, ni, yc⟩ : Mnt) _ rfl (oneC rfl) wB.heap.size _ _ (heap_alloc_new wB _) rfl (by rw [HQ.out]; simp [maxLen]; omega) (by rw [HQ.out]; omega) (by have := GB.out.size; simp; omega) ?_); intro g9 cap9 w10 hown9 hg9 hat9 hlt9)
                    go_roundw
                    case rel => exact ⟨h + 1, by omega, intNum, by rw [HTK.out]; exact Lib.hid ((GB.out.alloc (.cells (Mnt.cells ⟨i, q, j, ya, ni, yc⟩).toArray 40)).more hown9 hg9 rfl hat9), Lib.hid ((HKHB.out.below ((Below.refl _ wB).alloc (Nat.le_refl _) (.cells (Mnt.cells ⟨i, q, j, ya, ni, yc⟩).toArray 40))).push hg9 rfl hat9)⟩
                    case measure => simp [intOf]; omega
                  · have hhe : h = hn := by omega
                    subst hhe
                    have HCE := Lib.hid (HC2.out (hl.take h) (List.take_of_length_le (by rw [HHN.out]; exact Nat.le_refl _)))
                    rw [← HCE.out] at HG
                    clear HKH HC2 HCE
                    go_wp2
                    go_roundw
                    case rel => exact ⟨i + 1, by omega, intNum, HG⟩
                    case measure => simp [intOf]; omega
            · have hiR : i = R := by omega
              subst hiR
              rw [← HCC.out] at HG
              have HGL := Lib.hid (HG.out.less (Q := [(X, #[.string s.no, .int .i64 s.place, .string s.set, .int .i64 s.time, .slice (some ⟨bp, op, none⟩) np c5], 66)]) (fun r hr => List.mem_cons_of_mem _ hr))
              clear HG
              go_wp2
              go_roundw
              case rel => exact ⟨j + 1, by omega, intNum, HGL⟩
              case measure => simp [intOf]; omega
        · have hjn : j = np := by omega
          subst hjn
          rw [← HNX.out] at HG
          have HGL := Lib.hid (HG.out.less (Q := []) (fun r hr => by cases hr))
          clear HG
          go_wp2
          go_roundw
          case rel => exact ⟨q + 1, by omega, intNum, HGL⟩
          case measure => simp [intOf]; omega
    · have hqn : q = n := by omega
      have HAL := Lib.hid (show fm (scM rs sc) q = alM rs sc by unfold alM; rw [HSL.out, hqn])
      have hz5 := HB4.out.size
      rw [HAL.out] at HG
      have HBE := Lib.hid (HBA.out wr HG.out.bel)
      obtain ⟨A9, c9, hv9, _, _⟩ := (HG.out.own.sliF (F := fun _ => True) (fun _ _ => trivial)).form
      obtain ⟨ln, hln⟩ : ∃ ln, (alM rs sc).length = ln := ⟨_, rfl⟩
      rw [hln] at hv9
      subst hv9
      by_cases hbig : 20000 < ln
      · have hbi : (20000 : Int) < (ln : Int) := by omega
        have HR := Lib.hid (fun (W : World) (hb : Below w.heap.size w W) => MenP.bad (x := ⟨t, sc⟩) (rs := rs) (menE_big HEA.out HEB.out (show 20000 < (alM rs sc).length by omega)) (by decide) hb)
        clear hbig hqn HG hln
        go_wp2
        go_ret2
        exact HR.out _ HBE.out
      · have hbi : (ln : Int) ≤ (20000 : Int) := by omega
        have HFN := Lib.hid (MenP.ok (x := ⟨t, sc⟩) (rs := rs) (w := w) (w' := wr) (menE_ok HEA.out HEB.out (show ¬ 20000 < (alM rs sc).length by omega)) (HG.out.own.less hz5) HBE.out)
        clear hbig hqn HG hln
        go_wp2
        go_ret2
        exact HFN.out
end Go.Proofs.YtlfnmmnbfoimeaaGreatDoor

