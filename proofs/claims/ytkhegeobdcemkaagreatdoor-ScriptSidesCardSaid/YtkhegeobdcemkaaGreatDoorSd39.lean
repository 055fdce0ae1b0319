/- Texts packed: SdY. -/
import Derived.Test.YtkhegeobdcemkaaGreatDoorSd33
import Derived.Test.YtkhegeobdcemkaaGreatDoorSd01
import Derived.Test.YtkhegeobdcemkaaGreatDoorSd11
import Derived.Test.YtkhegeobdcemkaaGreatDoorSd37
import Derived.Test.YtkhegeobdcemkaaGreatDoorSd07
import Derived.Deep.DeepCutAuto
/- script.part, walked. -/
namespace Go.Proofs.YtkhegeobdcemkaaGreatDoor
set_option linter.unusedVariables false
open Go.RowKit Go.Sort

theorem gp2_at {w : World} {F : Nat → Prop} {l : List Grp} {A : Option Addr} {n c : Nat} (h : Sli gr2R w F l (.slice A n c)) (k : Nat) (hk : k < l.length) :
    ∃ b off, A = some ⟨b, off, none⟩ ∧ F b ∧ w.cell? ⟨b, off + k * 2, none⟩ = some (.int .i64 (l[k].1 : Int)) ∧ w.cell? ⟨b, off + k * 2 + 1, none⟩ = some (.int .i64 (l[k].2.1 : Int)) := by
  obtain ⟨b, off, a, ea, hb, e, hc⟩ := h.at_ k hk
  have e' : a = [.int .i64 (l[k].1 : Int), .int .i64 (l[k].2.1 : Int)] := e
  subst e'
  exact ⟨b, off, ea, hb, hc 0 _ rfl, hc 1 _ rfl⟩
abbrev PaG (w : World) (l : List Para) (v : Value) (P : List Pb) (wx : World) : Prop := BM paraR 78 w l v P wx
def PartP (ps : List Para) (nm : ByteArray) (w : World) (e : Ending) (w' : World) : Prop := ∃ v, e = .returned v ∧ Below w.heap.size w w' ∧ Own paraR w' w.heap.size w.heap.size 78 (partS ps nm) v
/-- What decides whether a group is needed, by its first paragraph. -/
theorem needB_para {ps : List Para} {nm : ByteArray} {gs : List Grp} {k : Nat} {a b : Nat} {s : ByteArray} (hg : GOk ps (a, b, s)) {p : Para} (hp : ps[a]? = some p) (hs : 0 < p.text.size) (hn : ¬ nm = ⟨#[]⟩) : needB ps nm gs k (a, b, s) = (cueB nm p || (decide (p.kind = 2) && nxtB gs nm (k + 1)) || (!decide (p.kind = 2) && nmdB p.text nm)) := by
  have h1 := hg.nm hp nm hn
  dsimp only at h1
  unfold needB
  dsimp only
  by_cases h2 : p.kind = 2
  · have h3 := hg.cue p hp h2
    dsimp only at h3
    rw [if_neg (fun e => by rw [h3] at e; rw [e] at hs; exact absurd hs (by decide)), h1, decide_eq_true h2]
    simp
  · rw [if_pos (hg.no p hp h2).1, decide_eq_false h2, cueB_no2 h2]
    unfold txtAt
    rw [hp]
    simp
theorem nmd_eq (t nm : ByteArray) : decide (0 < (fndI (wordsT t) (wordsT nm)).length) = nmdB t nm := by
  unfold nmdB fndI
  rw [List.length_map]
set_option maxRecDepth 100000 in
set_option maxHeartbeats 4000000 in
theorem part_c {F : Nat → Prop} (ps : List Para) (v : Value) (nm : ByteArray) (w : World) (h : Sli paraR w F ps v) (hF : ∀ b, F b → b < w.heap.size) (hl : ps.length ≤ 100000) (htx : ∀ p ∈ ps, p.text.size ≤ 20000) (hr : RtP ps) (hnm : nameB nm = true) :
    Calls Tryz.prog 70 #[v, .string nm] w (PartP ps nm w) := by
  obtain ⟨i0, hi0, hz0, hz1, hz2⟩ := info_parts (show (Tryz.prog.info? 78).map (fun i => (i.zero, i.size, i.bytes)) = some (some (.agg #[.int .i64 0, .string ⟨#[]⟩]), 2, 24) by kernel_rfl)
  obtain ⟨A, c, rfl, hlc, hcm⟩ := h.form
  have HGR := Lib.hid (groups_c ps (.slice A ps.length c) w h hF hl hr)
  have HH := Lib.hid h
  have HF := Lib.hid hF
  have HTX := Lib.hid htx
  have HCH := Lib.hid (grpS_ch hr)
  have HKD := Lib.hid (fun k hk => hr.kinds k hk)
  have HNE := Lib.hid (name_ne hnm)
  have hnz := name_sz hnm
  have hwp := name_words hnm
  have hwl := wordsT_len nm
  obtain ⟨M, hM⟩ : ∃ M, ps.length = M := ⟨_, rfl⟩
  have HM := Lib.hid hM
  rw [hM] at HH hlc hl HGR ⊢
  clear h hF hM hr htx hnm
  go_enter Tryz.func70, Tryz.ntmps70
  go_wp2_with fail
  refine HGR.out.mono ?_
  rintro e w1 ⟨v1, rfl, hb1, hown1⟩
  have G1 := Lib.hid ((BM.start (n := 2) (enc := Para.cells) (hn := fun _ => rfl) (e := 78) w).keepNew hb1 hown1)
  have HO1 := Lib.hid hown1
  have HWD := Lib.hid (Words_c nm w1 (by omega))
  clear hb1 hown1 HGR
  go_wp2_with fail
  refine HWD.out.mono ?_
  rintro e w2 ⟨v2, rfl, hown2, hb2⟩
  have G2 := Lib.hid (G1.out.keepNew hb2 hown2)
  have HO2 := Lib.hid hown2
  clear hb2 hown2 HWD G1
  have HSL := Lib.hid (fun (W : World) l v P (hW : PaG w l v P W) (hP : ∀ p ∈ keepP v2 w2 ++ (keepP v1 w1 ++ []), p ∈ P) => show (Sli gr2R W (fun q => v1.ownBlock = some q) (grpS ps) v1 ∧ ∀ q, v1.ownBlock = some q → q < W.heap.size) ∧ (Sli strR W (fun q => v2.ownBlock = some q) (wordsT nm) v2 ∧ ∀ q, v2.ownBlock = some q → q < W.heap.size) from
    ⟨⟨BM.sliK hW (fun p hp => hP p (by simp [hp])) HO1.out, fun q hq => (hW.plt (b := q) (f := fun o => o = w1.heap[q]?) (hP _ (by unfold keepP; rw [hq]; simp))).2⟩, ⟨BM.sliK hW (fun p hp => hP p (by simp [hp])) HO2.out, fun q hq => (hW.plt (b := q) (f := fun o => o = w2.heap[q]?) (hP _ (by unfold keepP; rw [hq]; simp))).2⟩⟩)
  obtain ⟨KP, hkp⟩ : ∃ KP, keepP v2 w2 ++ (keepP v1 w1 ++ []) = KP := ⟨_, rfl⟩
  rw [hkp] at HSL G2
  obtain ⟨⟨hs1, _⟩, hs2, _⟩ := HSL.out _ _ _ _ G2.out (fun p hp => hp)
  obtain ⟨A1, c1, hv1, _, _⟩ := hs1.form
  obtain ⟨A2, c2, hv2, _, _⟩ := hs2.form
  have HPS := Lib.hid (show partS ps nm = partN ps nm (grpS ps) (grpS ps).length from rfl)
  obtain ⟨gs, hgs⟩ : ∃ gs, grpS ps = gs := ⟨_, rfl⟩
  rw [hgs] at HSL HCH hv1 HPS
  obtain ⟨K, hK⟩ : ∃ K, gs.length = K := ⟨_, rfl⟩
  have HK := Lib.hid hK
  have hKM : K ≤ M := by have := HCH.out.len; rw [HM.out, hK] at this; exact this
  have HPL := Lib.hid (fun k => show (partN ps nm gs k).length ≤ k * M by have := partN_len ps nm gs k; rw [HM.out] at this; exact this)
  obtain ⟨S, hS⟩ : ∃ S, wordsT nm = S := ⟨_, rfl⟩
  have HSW := Lib.hid hS
  rw [hS] at HSL hv2 hwp hwl
  obtain ⟨Sn, hSn⟩ : ∃ Sn, S.length = Sn := ⟨_, rfl⟩
  have HSN := Lib.hid hSn
  rw [hSn] at hv2 hwp hwl
  rw [hK] at hv1 HPS
  obtain ⟨F1, hF1⟩ : ∃ F1 : Nat → Prop, F1 = fun q => v1.ownBlock = some q := ⟨_, rfl⟩
  obtain ⟨F2, hF2⟩ : ∃ F2 : Nat → Prop, F2 = fun q => v2.ownBlock = some q := ⟨_, rfl⟩
  have HSL := Lib.hid (show ∀ (W : World) l v P, PaG w l v P W → (∀ p ∈ KP, p ∈ P) → (Sli gr2R W F1 gs v1 ∧ ∀ q, F1 q → q < W.heap.size) ∧ (Sli strR W F2 S v2 ∧ ∀ q, F2 q → q < W.heap.size) from fun W l v P h1 h2 => by rw [hF1, hF2]; exact HSL.out W l v P h1 h2)
  rw [hv1, hv2] at HSL
  have G2 := Lib.hid (show PaG w (partN ps nm gs 0) (.slice none 0 0) KP w2 from G2.out)
  rw [hv1, hv2]
  clear hs1 hs2 hv1 hv2 HO1 HO2 hgs hK hkp hS hSn hF1 hF2
  have hSp : (0 : Int) < (Sn : Int) := by omega
  go_wp2
  go_loopw [5, 20] (fun v i wr => ∃ k : Nat, k ≤ K ∧ i = .int .i64 k ∧ Hid (PaG w (partN ps nm gs k) v KP wr)) (fun _ i _ => K - (intOf i).toNat)
  case atStart => exact ⟨0, Nat.zero_le _, rfl, G2⟩
  case round =>
    clear G2
    obtain ⟨k, hk, rfl, HG⟩ := hrel
    by_cases hlk : k < K
    · have hk2 : k < gs.length := by rw [HK.out]; exact hlk
      obtain ⟨⟨hsl, hslt⟩, _⟩ := HSL.out _ _ _ _ HG.out (fun p hp => hp)
      obtain ⟨bg, offg, rfl, hfg, g0, g1⟩ := gp2_at hsl k hk2
      have hbg := hslt bg hfg
      have hgo := HCH.out.ok _ (List.getElem_mem hk2)
      have HYES := Lib.hid (fun h => partN_yes (ps := ps) (nm := nm) hk2 h)
      have HNO := Lib.hid (fun h => partN_no (ps := ps) (nm := nm) hk2 h)
      generalize (gs[k]'hk2) = gp at *
      obtain ⟨a, b2, nmg⟩ := gp
      dsimp only at g0 g1 HYES HNO
      have hlt2 := hgo.lt
      have hle2 := hgo.le
      dsimp only at hlt2 hle2
      rw [HM.out] at hle2
      have hap : a < ps.length := by rw [HM.out]; omega
      have hkd := HKD.out a hap
      have htx := HTX.out _ (List.getElem_mem hap)
      have HND := Lib.hid (needB_para (gs := gs) (k := k) hgo (List.getElem?_eq_getElem hap) hkd.2.2 HNE.out)
      obtain ⟨b, off, rfl, hfb, _, _⟩ := para_at (HH.out.below HG.out.bel HF.out) a hap
      have G8 := Lib.hid (HG.out.new #[.int .i64 (a : Int), .int .i64 (b2 : Int)] 156)
      have hlo := HPL.out k
      clear hsl hslt hk2 hgo HG hfg
      go_upto_region 7 with (fail)
      generalize hW : wr.alloc (.cells #[.int .i64 (a : Int), .int .i64 (b2 : Int)] 156) = w7 at *
      have hY7 := (G8.out.plt (b := wr.heap.size) (List.mem_cons_self ..)).2
      generalize wr.heap.size = Y at *
      have HCY := Lib.hid (fun (W : World) l v P (hW : PaG w l v P W) (hm : (Y, cellsP #[.int .i64 (a : Int), .int .i64 (b2 : Int)] 156) ∈ P) => show W.cell? ⟨Y, 0, none⟩ = some (.int .i64 (a : Int)) ∧ W.cell? ⟨Y, 1, none⟩ = some (.int .i64 (b2 : Int)) from ⟨(hW.cell hm).1 0, (hW.cell hm).1 1⟩)
      obtain ⟨y0, y1⟩ := HCY.out _ _ _ _ G8.out (List.mem_cons_self ..)
      obtain ⟨b', off', hbb, hfb', p0, p1⟩ := para_at (HH.out.below G8.out.bel HF.out) a hap
      obtain ⟨rfl, rfl⟩ : b = b' ∧ off = off' := by injection hbb with h; injection h with h1 h2; exact ⟨h1, h2⟩
      have hbw : b < w7.heap.size := by have := HF.out b hfb; have := G8.out.size; omega
      have hai : (a : Int) < (M : Int) := by omega
      have HPA := Lib.hid (show ps[a]? = some (ps[a]'hap) from List.getElem?_eq_getElem hap)
      generalize (ps[a]'hap) = pa at *
      have G9 := Lib.hid (G8.out.new #[.int .i64 pa.kind, .string pa.text] 78)
      clear hW g0 g1 hbb hap hfb'
      go_upto_region 8 with (fail)
      generalize hW : w7.alloc (.cells #[.int .i64 pa.kind, .string pa.text] 78) = w9 at *
      have hZ9 := (G9.out.plt (b := w7.heap.size) (List.mem_cons_self ..)).2
      generalize w7.heap.size = Z at *
      have HCZ := Lib.hid (fun (W : World) l v P (hW : PaG w l v P W) (hm : (Z, cellsP #[.int .i64 pa.kind, .string pa.text] 78) ∈ P) => show W.cell? ⟨Z, 0, none⟩ = some (.int .i64 pa.kind) ∧ W.cell? ⟨Z, 1, none⟩ = some (.string pa.text) from ⟨(hW.cell hm).1 0, (hW.cell hm).1 1⟩)
      clear hW y0 y1 p0 p1 G8
      obtain ⟨z0, z1⟩ := HCZ.out _ _ _ _ G9.out (List.mem_cons_self ..)
      go_cut [11] (fun v wx => v = .bool (cueB nm pa) ∧ wx = w9)
      case first =>
        clear HYES HNO HND
        by_cases q1 : pa.kind = 2
        · rw [q1] at z0
          by_cases q2 : pa.text = nm
          · have HC := Lib.hid (show cueB nm pa = true by unfold cueB; rw [q1, q2]; simp)
            rw [q2] at z1
            clear q1 q2
            go_wp2
            go_meet
            exact ⟨by rw [HC.out], rfl⟩
          · have HC := Lib.hid (show cueB nm pa = false by unfold cueB; rw [decide_eq_false q2]; simp)
            have q2' := beq_ne q2
            have q3 : ¬ pa.text.toList = nm.toList := by simpa using q2'
            clear q1 q2
            go_wp2
            go_meet
            exact ⟨by rw [HC.out], rfl⟩
        · have HC := Lib.hid (cueB_no2 (nm := nm) q1)
          go_wp2
          go_meet
          exact ⟨by rw [HC.out], rfl⟩
      case rest =>
      obtain ⟨rfl, rfl⟩ := hcut
      go_upto_region 9 with (fail)
      go_cut [12] (fun v wx => v = .bool (decide (pa.kind = 2) && nxtB gs nm (k + 1)) ∧ wx = wc)
      case first =>
        clear HYES HNO HND
        by_cases q1 : pa.kind = 2
        · have e1 : (pa.kind == 2) = true := beq_iff_eq.2 q1
          have HQ1 := Lib.hid (show (decide (pa.kind = 2) && nxtB gs nm (k + 1)) = nxtB gs nm (k + 1) by rw [decide_eq_true q1, Bool.true_and])
          have ew : IntKind.i64.wrap ((k : Int) + 1) = (k : Int) + 1 := IntWalk.i64_in _ (by omega)
          by_cases hk1 : k + 1 < K
          · have hk2 : k + 1 < gs.length := by rw [HK.out]; exact hk1
            have hk1I : (k : Int) + 1 < (K : Int) := by omega
            have hk1N : ((k : Int) + 1).toNat = k + 1 := by omega
            have hk0I : (0 : Int) ≤ (k : Int) + 1 := by omega
            obtain ⟨⟨hsl, hslt⟩, _⟩ := HSL.out _ _ _ _ G9.out (fun p hp => by simp [hp])
            obtain ⟨bg', offg', hbb, hfg, g0, _⟩ := gp2_at hsl (k + 1) hk2
            obtain ⟨rfl, rfl⟩ : bg = bg' ∧ offg = offg' := by injection hbb with h; injection h with h1 h2; exact ⟨h1, h2⟩
            have hgo := HCH.out.ok _ (List.getElem_mem hk2)
            have HNX := Lib.hid (show nxtB gs nm (k + 1) = decide ((gs[k + 1]'hk2).2.2 = nm) by unfold nxtB; rw [List.getElem?_eq_getElem hk2])
            generalize (gs[k + 1]'hk2) = gq at *
            have hlt3 := hgo.lt
            have hle3 := hgo.le
            rw [HM.out] at hle3
            have ha2 : gq.1 < ps.length := by rw [HM.out]; omega
            obtain ⟨b', off', hbb2, _, p0, p1⟩ := para_at (HH.out.below G9.out.bel HF.out) gq.1 ha2
            obtain ⟨rfl, rfl⟩ : b = b' ∧ off = off' := by injection hbb2 with h; injection h with h1 h2; exact ⟨h1, h2⟩
            have HCU := Lib.hid (hgo.nm (List.getElem?_eq_getElem ha2) nm HNE.out)
            have ha2I : (gq.1 : Int) < (M : Int) := by omega
            generalize (ps[gq.1]'ha2) = pb at *
            generalize gq.1 = a2 at *
            clear hk2 hsl hslt hbb hbb2 hgo hfg
            by_cases r1 : pb.kind = 2
            · rw [r1] at p0
              by_cases r2 : pb.text = nm
              · have HC := Lib.hid (show nxtB gs nm (k + 1) = true by rw [HNX.out, HCU.out]; unfold cueB; rw [r1, r2]; simp)
                rw [r2] at p1
                clear r1 r2 q1
                go_wp2
                go_meet
                exact ⟨by rw [HQ1.out, HC.out], rfl⟩
              · have HC := Lib.hid (show nxtB gs nm (k + 1) = false by rw [HNX.out, HCU.out]; unfold cueB; rw [decide_eq_false r2]; simp)
                have q2' := beq_ne r2
                have q3 : ¬ pb.text.toList = nm.toList := by simpa using q2'
                clear r1 r2 q1
                go_wp2
                go_meet
                exact ⟨by rw [HQ1.out, HC.out], rfl⟩
            · have HC := Lib.hid (show nxtB gs nm (k + 1) = false by rw [HNX.out, HCU.out]; exact cueB_no2 r1)
              clear q1
              go_wp2
              go_meet
              exact ⟨by rw [HQ1.out, HC.out], rfl⟩
          · have HC := Lib.hid (show nxtB gs nm (k + 1) = false by unfold nxtB; rw [List.getElem?_eq_none (by rw [HK.out]; omega)])
            have hk1I : ¬ (k : Int) + 1 < (K : Int) := by omega
            clear q1
            go_wp2
            go_meet
            exact ⟨by rw [HQ1.out, HC.out], rfl⟩
        · have e1 : (pa.kind == 2) = false := beq_eq_false_iff_ne.2 q1
          have HQ1 := Lib.hid (show (decide (pa.kind = 2) && nxtB gs nm (k + 1)) = false by rw [decide_eq_false q1, Bool.false_and])
          clear q1
          go_wp2
          go_meet
          exact ⟨by rw [HQ1.out], rfl⟩
      case rest =>
      obtain ⟨rfl, rfl⟩ := hcut
      go_upto_region 10 with (fail)
      go_cut [13] (fun v wx => v = .bool (!decide (pa.kind = 2) && nmdB pa.text nm) ∧ Hid (PaG w (partN ps nm gs k) u5 ((Z, cellsP #[.int .i64 pa.kind, .string pa.text] 78) :: (Y, cellsP #[.int .i64 (a : Int), .int .i64 (b2 : Int)] 156) :: KP) wx))
      case first =>
        clear HYES HNO HND
        by_cases q1 : pa.kind = 2
        · have e1 : (pa.kind != 2) = false := by rw [q1]; rfl
          have HQ1 := Lib.hid (show (!decide (pa.kind = 2) && nmdB pa.text nm) = false by rw [decide_eq_true q1]; rfl)
          clear q1
          go_wp2
          go_meet
          exact ⟨by rw [HQ1.out], G9⟩
        · have e1 : (pa.kind != 2) = true := bne_iff_ne.2 q1
          have HQ1 := Lib.hid (show (!decide (pa.kind = 2) && nmdB pa.text nm) = nmdB pa.text nm by rw [decide_eq_false q1, Bool.not_false, Bool.true_and])
          have HWD := Lib.hid (Words_c pa.text wc (by omega))
          clear q1
          go_wp2_with fail
          refine HWD.out.mono ?_
          rintro e w10 ⟨v3, rfl, hown3, hb3⟩
          have G10 := Lib.hid (G9.out.below hb3)
          obtain ⟨_, hs2, hs2t⟩ := HSL.out _ _ _ _ G10.out (fun p hp => by simp [hp])
          have hs3 := hown3.sliF (F := fun q => q < w10.heap.size) (enc := fun x : ByteArray => [.string x]) (hn := fun _ => rfl) (fun g hg => (hown3.block g hg).2)
          obtain ⟨A3, c3, rfl, _, _⟩ := hs3.form
          have hwl3 := wordsT_len pa.text
          have HFO := Lib.hid (found_c (F := fun q => q < w10.heap.size) (wordsT pa.text) S _ (.slice A2 Sn c2) w10 hs3 (hs2.more hs2t) (fun q hq => hq) (by omega) (by rw [HSN.out]; omega) (by rw [HSN.out]; exact hwp))
          clear hs2 hs2t hs3 hown3 hb3 G9 HWD z0 z1
          go_wp2_with fail
          refine HFO.out.mono ?_
          rintro e w11 ⟨v4, rfl, hown4, hb4⟩
          have G11 := Lib.hid (G10.out.below hb4)
          obtain ⟨A4, c4, rfl, _, _⟩ := (hown4.sliF (F := fun _ => True) (enc := fun x : Int => [.int .i64 x]) (hn := fun _ => rfl) (fun _ _ => trivial)).form
          have HR := Lib.hid (nmd_eq pa.text nm)
          rw [HSW.out] at HR
          obtain ⟨fn, hfn⟩ : ∃ fn, (fndI (wordsT pa.text) S).length = fn := ⟨_, rfl⟩
          rw [hfn] at HR ⊢
          clear hown4 hb4 hfn HFO
          go_wp2
          go_meet
          exact ⟨congrArg Value.bool (HR.out.trans HQ1.out.symm), G11⟩
      case rest =>
      clear z0 z1 G9
      obtain ⟨rfl, G10⟩ := hcut
      go_upto_region 11 with (fail)
      go_cut [81] (fun v wx => v = .bool (needB ps nm gs k (a, b2, nmg)) ∧ wx = wc)
      case first =>
        clear HYES HNO
        generalize cueB nm pa = r1 at *
        generalize (decide (pa.kind = 2) && nxtB gs nm (k + 1)) = r2 at *
        generalize (!decide (pa.kind = 2) && nmdB pa.text nm) = r3 at *
        cases r1
        · cases r2
          · cases r3
            · go_wp2
              go_meet
              exact ⟨by rw [HND.out]; rfl, rfl⟩
            · go_wp2
              go_meet
              exact ⟨by rw [HND.out]; rfl, rfl⟩
          · go_wp2
            go_meet
            exact ⟨by rw [HND.out]; cases r3 <;> rfl, rfl⟩
        · go_wp2
          go_meet
          exact ⟨by rw [HND.out]; cases r2 <;> cases r3 <;> rfl, rfl⟩
      case rest =>
      obtain ⟨rfl, rfl⟩ := hcut
      clear HND
      cases hnd : needB ps nm gs k (a, b2, nmg) with
      | false =>
        have HE := Lib.hid (HNO.out hnd)
        clear HYES HNO hnd
        go_wp2
        go_roundw
        case rel => exact ⟨k + 1, by omega, intNum, by rw [HE.out]; exact Lib.hid (G10.out.less (fun p hp => by simp [hp]))⟩
        case measure => simp [intOf]; omega
      | true =>
        have HE := Lib.hid (HYES.out hnd)
        clear HYES HNO hnd
        obtain ⟨y0, y1⟩ := HCY.out _ _ _ _ G10.out (by simp)
        have hi1 : (a : Int) ≤ (b2 : Int) := by omega
        have hi2 : (b2 : Int) ≤ (c : Int) := by omega
        have hi3 : ((b2 : Int) - (a : Int)).toNat = b2 - a := by omega
        have HSS := Lib.hid (((HH.out.below G10.out.bel HF.out).drop_ a (by rw [HM.out]; omega) (M - a) (c - a) (by rw [HM.out]) rfl).take_ (b2 - a) (by rw [List.length_drop, HM.out]; omega))
        have hln : ((ps.drop a).take (b2 - a)).length = b2 - a := by rw [List.length_take, List.length_drop, HM.out]; omega
        have HLN := Lib.hid hln
        obtain ⟨lo, hlo2⟩ : ∃ lo, partN ps nm gs k = lo := ⟨_, rfl⟩
        rw [hlo2] at G10 HE hlo
        obtain ⟨m, hm⟩ : ∃ m, lo.length = m := ⟨_, rfl⟩
        have HL1 := Lib.hid hm
        rw [hm] at hlo
        obtain ⟨A5, c5, rfl, _, _⟩ := (G10.out.own.sliF (F := fun _ => True) (enc := Para.cells) (hn := fun _ => rfl) (fun _ _ => trivial)).form
        rw [hm] at G10 ⊢
        have hkm : k * M ≤ 100000 * 100000 := Nat.mul_le_mul (by omega) hl
        have hzz := G10.out.size
        clear hlo2 hm hln
        go_upto_region 12 with (fail)
        generalize Value.slice A5 m c5 = va at *
        go_wp2_with (at_builtin; (refine wpList_appL (n := 2) (enc := Para.cells) (hn := fun _ => rfl) rfl _ _ _ rfl w.heap.size w.heap.size 78 i0 _ 24 Tryz.underlying69 hi0 hz0 (by assumption) (by assumption) rfl (by decide) (fun _ => oneC rfl) _ va lo rfl G10.out.own ((ps.drop a).take (b2 - a)) _ (b2 - a) _ rfl HSS.out HLN.out (by omega) (by rw [HL1.out]; simp [maxLen]; omega) (by rw [HL1.out]; omega) (by omega) ?_); rw [HL1.out]; intro g cap w7 hown7 hg7 hat7 hlt7)
        have G12 := Lib.hid (G10.out.more hown7 hg7 rfl hat7)
        go_roundw
        case rel => exact ⟨k + 1, by omega, intNum, by rw [HE.out]; exact Lib.hid (G12.out.less (fun p hp => by simp [hp]))⟩
        case measure => simp [intOf]; omega
    · have HE := Lib.hid (show partS ps nm = partN ps nm gs k by rw [HPS.out, show K = k by omega])
      go_wp2
      go_ret
      exact ⟨_, rfl, HG.out.bel, by rw [HE.out]; exact HG.out.own⟩
end Go.Proofs.YtkhegeobdcemkaaGreatDoor

