/- Texts packed: CgC, CgD, CgR, CgU, CgV, CgW, CgE. -/
import Derived.Test.YtmefjkfjpgblcaaGreatDoorSc36
import Derived.Test.YtmefjkfjpgblcaaGreatDoorSc23
import Derived.Test.YtmefjkfjpgblcaaGreatDoorSc37
import Derived.Test.YtmefjkfjpgblcaaGreatDoorSc02
import Derived.BigQuiet
import Derived.Test.YtmefjkfjpgblcaaGreatDoorSc10
/- take.Coverage, walked. -/
namespace Go.Proofs.YtmefjkfjpgblcaaGreatDoor
set_option linter.unusedVariables false
open Go.RowKit Go.Sort

def cvdR : Rep Cvd := Rep.flat 4 (fun c : Cvd => [.int .i64 c.1, .int .i64 c.2.1, .int .i64 c.2.2.1, .int .i64 c.2.2.2]) (fun _ => rfl)
def covgE (x : Script) (rl : List Roll) (tl : List Tk) (no : ByteArray) : Int := if ¬ tksChk x rl tl = 0 then tksChk x rl tl else match scnIdx x.scenes no with
  | none => 8
  | some _ => 0
def covgL (x : Script) (rl : List Roll) (tl : List Tk) (no : ByteArray) : List Cvd := if ¬ tksChk x rl tl = 0 then [] else match scnIdx x.scenes no with
  | none => []
  | some k => coverL x.scenes tl k
def CovP (x : Script) (rl : List Roll) (tl : List Tk) (no : ByteArray) (w : World) (e : Ending) (w' : World) : Prop := ∃ v, e = .returned (.tuple #[v, .int .i64 (covgE x rl tl no)]) ∧ Own cvdR w' w.heap.size w.heap.size 75 (covgL x rl tl no) v ∧ Below w.heap.size w w'
theorem CovP.bad {x : Script} {rl : List Roll} {tl : List Tk} {no : ByteArray} {q : Int} {w w' : World} (h : tksChk x rl tl = q) (h0 : ¬ q = 0) (hb : Below w.heap.size w w') : CovP x rl tl no w (.returned (.tuple #[.slice none 0 0, .int .i64 q])) w' := by
  subst h
  exact ⟨_, by unfold covgE; rw [if_pos h0], by unfold covgL; rw [if_pos h0]; exact Own.nil_, hb⟩
theorem CovP.none_ {x : Script} {rl : List Roll} {tl : List Tk} {no : ByteArray} {w w' : World} (h : tksChk x rl tl = 0) (h2 : scnIdx x.scenes no = none) (hb : Below w.heap.size w w') : CovP x rl tl no w (.returned (.tuple #[.slice none 0 0, .int .i64 8])) w' := by
  exact ⟨_, by unfold covgE; rw [if_neg (fun k => k h), h2], by unfold covgL; rw [if_neg (fun k => k h), h2]; exact Own.nil_, hb⟩
theorem CovP.some_ {x : Script} {rl : List Roll} {tl : List Tk} {no : ByteArray} {w w' : World} {k : Nat} {v : Value} (h : tksChk x rl tl = 0) (h2 : scnIdx x.scenes no = some k) (ho : Own cvdR w' w.heap.size w.heap.size 75 (coverL x.scenes tl k) v) (hb : Below w.heap.size w w') : CovP x rl tl no w (.returned (.tuple #[v, .int .i64 0])) w' := by
  exact ⟨v, by unfold covgE; rw [if_neg (fun k => k h), h2], by unfold covgL; rw [if_neg (fun k => k h), h2]; exact ho, hb⟩
theorem on_next (l : List Prt) (j : Nat) (hj : j < l.length) : ((((l.take (j + 1)).filter fun p => p.2.on).length : Nat) : Int) = ((((l.take j).filter fun p => p.2.on).length : Nat) : Int) + (if l[j].2.on = true then 1 else 0) := by
  rw [List.take_succ_eq_append_getElem hj, List.filter_append, List.length_append]
  cases h : l[j].2.on <;> simp [h]
theorem cov_next (sc : List Scene) (tl : List Tk) (i : Nat) (l : List Int) (k : Nat) (hk : k < l.length) : (l.take (k + 1)).map (cvdOf sc tl i) = (l.take k).map (cvdOf sc tl i) ++ [cvdOf sc tl i l[k]] := by
  rw [List.take_succ_eq_append_getElem hk, List.map_append]; rfl
theorem gPut (W : World) (p : Addr) (v : Value) : W.grownBy (W.setCell p v) (some p.block) := ⟨rfl, rfl, rfl, by simp [World.setCell], fun i' _ hne => Below.heap_setCell W p v i' (fun e => hne (by rw [e]))⟩
def cdCs (a b c d : Int) : Array Value := #[.int .i64 a, .int .i64 b, .int .i64 c, .int .i64 d]
set_option maxRecDepth 100000 in
set_option maxHeartbeats 16000000 in
theorem Coverage_c {F F2 : Nat → Prop} (t : ByteArray) (ls : List (Scene × Value)) (v : Value) (A1 : Option Addr) (rl : List Roll) (c1 lo : Nat) (tl : List (Tk × Value)) (tv : Value) (no : ByteArray) (w : World) (h : ScL w F t ls v) (hr : Rs w lo w.heap.size 5 Roll.cells A1 rl) (hlen : rl.length ≤ 1000000) (hnm : ∀ r ∈ rl, r.name.size ≤ 140737488355328) (ht : TkW w F2 tl tv) (hm : MaxLaid w) (hN : ls.length ≤ 100000) :
    Calls Tryz.prog 31 #[.agg #[.string t, v], .slice A1 rl.length c1, tv, .string no] w (CovP ⟨t, ls.map (·.1)⟩ rl (tl.map (·.1)) no w) := by
  obtain ⟨A, c, rfl, hlc, hcm⟩ := h.sli.form
  obtain ⟨A2, c2, rfl, hlc2, hcm2⟩ := ht.sli.form
  obtain ⟨i0, hi0, hz0, hz1, hz2⟩ := info_parts (show (Tryz.prog.info? 75).map (fun i => (i.zero, i.size, i.bytes)) = some (some (.agg #[.int .i64 0, .int .i64 0, .int .i64 0, .int .i64 0]), 4, 32) by kernel_rfl)
  obtain ⟨n, hn⟩ : ∃ n, ls.length = n := ⟨_, rfl⟩
  obtain ⟨L, hL⟩ : ∃ L, tl.length = L := ⟨_, rfl⟩
  obtain ⟨R, hR⟩ : ∃ R, rl.length = R := ⟨_, rfl⟩
  have HL := Lib.hid hL
  have HNN := Lib.hid hn
  have HSW := Lib.hid h
  have HT := Lib.hid ht
  have hG0 := (pvStart w).new #[.string t, .slice A ls.length c] 44
  have hCK := fun (W : World) (hW : Below w.heap.size w W) => CheckTakes_c t ls (.slice A ls.length c) A1 rl c1 lo tl (.slice A2 tl.length c2) W (h.below hW) ((hr.below hW (Nat.le_refl _)).more (Nat.le_refl _) hW.size) hlen hnm (ht.below hW) (max_below hm hW (Nat.le_refl _))
  have hSO := fun (W : World) (hW : Below w.heap.size w W) => scenesOf_c t ls (.slice A ls.length c) W (h.below hW)
  have hCV := fun (hok : CvOk (ls.map (·.1)) (tl.map (·.1))) (hL3 : tl.length ≤ 3000) (W : World) (hW : Below w.heap.size w W) => covering_c t ls (.slice A ls.length c) tl (.slice A2 tl.length c2) W (h.below hW) (ht.below hW) hok hN hL3
  rw [hn] at hlc hG0 hCK hSO hCV hN
  rw [hR, hL] at hCK
  rw [hL] at hCV hlc2
  rw [hn, hL, hR]
  rw [hn] at HSW
  rw [hL] at HT
  have HCK := Lib.hid hCK
  have HSO := Lib.hid hSO
  have HCV := Lib.hid hCV
  have HG0 := Lib.hid hG0
  clear h hr hnm ht hm hG0 hCK hSO hCV hn hL hR
  go_enter Tryz.func31, Tryz.ntmps31
  go_upto_region 1 with (fail)
  have hXc := (HG0.out.cell (p := (w.heap.size, #[.string t, .slice A n c], 44)) (by simp)).1
  have x0 : (w.alloc (.cells #[.string t, .slice A n c] 44)).cell? ⟨w.heap.size, 0, none⟩ = some (.string t) := hXc 0
  have x1 : (w.alloc (.cells #[.string t, .slice A n c] 44)).cell? ⟨w.heap.size, 1, none⟩ = some (.slice A n c) := hXc 1
  clear hXc
  generalize w.alloc (.cells #[.string t, .slice A n c] 44) = w1 at *
  go_wp2_with fail
  refine (HCK.out w1 HG0.out.bel).mono ?_
  rintro e w2 ⟨rfl, hb2⟩
  have HG2 := Lib.hid (HG0.out.below hb2)
  clear hb2 HCK HG0 x0 x1
  obtain ⟨ce, hce⟩ : ∃ ce, tksChk ⟨t, ls.map (·.1)⟩ rl (tl.map (·.1)) = ce := ⟨_, rfl⟩
  have HCE := Lib.hid hce
  rw [hce]
  clear hce
  by_cases h0 : ce = 0
  case neg =>
    have hne : (ce != 0) = true := by rw [bne_iff_ne]; exact h0
    have H0 := Lib.hid h0
    clear h0
    go_wp2
    go_ret2
    exact CovP.bad HCE.out H0.out HG2.out.bel
  subst h0
  have HXC := Lib.hid (fun (W : World) (hW : PvG w [(w.heap.size, #[.string t, .slice A n c], 44)] W) => show W.cell? ⟨w.heap.size, 0, none⟩ = some (.string t) ∧ W.cell? ⟨w.heap.size, 1, none⟩ = some (.slice A n c) from by
    have hXc := (hW.cell (p := (w.heap.size, #[.string t, .slice A n c], 44)) (by simp)).1
    exact ⟨hXc 0, hXc 1⟩)
  obtain ⟨hS0, _, hL3, _⟩ := tksChk_ok HCE.out
  rw [List.length_map, HL.out] at hL3
  have HOK := Lib.hid (CvOk.of HCE.out)
  have HLK := Lib.hid (lk_scn_all (xs := ls.map (·.1)) HOK.out.dis no)
  obtain ⟨x0, x1⟩ := HXC.out w2 HG2.out
  clear hS0
  obtain ⟨opt, hopt⟩ : ∃ o, scnIdx (ls.map (·.1)) no = o := ⟨_, rfl⟩
  rw [hopt] at HLK
  have HOP := Lib.hid hopt
  clear hopt
  cases opt with
  | none =>
    go_wp2_with (first | (go_at_call 92; refine (HSO.out w2 HG2.out.bel).mono ?_; rintro e w3 ⟨M, rfl, hM, hMM, hb3⟩; have HG3 := Lib.hid (HG2.out.below hb3); have HMM := Lib.hid hMM; clear hMM hb3 HG2 HSO x0 x1) | (at_lookup; refine wpList_lookup_plain _ rfl _ _ 116 true rfl 9 3 keyTc Tryz.underlying116 (.int .i64 0) (zeroIc _) M _ rfl HMM.out no rfl ?_; rw [HLK.out]; simp only [if_true, Option.map_none, Option.getD_none, Option.isSome_none]) | fail)
    go_ret2
    exact CovP.none_ HCE.out HOP.out HG3.out.bel
  | some i =>
  have hiN : i < n := by
    obtain ⟨hj, _⟩ := scnIdx_some HOP.out
    rw [List.length_map] at hj
    rw [← HNN.out]; exact hj
  have hil : i < ls.length := by rw [HNN.out]; exact hiN
  have hi0' : (0 : Int) ≤ i := by omega
  have hik : (i : Int) < n := by omega
  obtain ⟨bs, of2, hAs, hfbs, _, _, _, _, _⟩ := scAt HSW.out.sli i hil
  obtain ⟨A4, c4, h4, hlc4, _⟩ := (HSW.out.par _ (List.getElem_mem hil)).form
  have HPA := Lib.hid (HSW.out.par _ (List.getElem_mem hil))
  have hnd : (((ls.map (·.1))[i]?).map (·.paras)).getD [] = (ls[i]'hil).1.paras := by simp [List.getElem?_eq_getElem hil]
  have HCO := Lib.hid (show coverL (ls.map (·.1)) (tl.map (·.1)) i = (needL (ls[i]'hil).1.paras).map (cvdOf (ls.map (·.1)) (tl.map (·.1)) i) by unfold coverL; rw [hnd])
  have hpl := (HSW.out.bd _ (List.getElem_mem hil)).2.2.1
  have HSA := Lib.hid (fun (W : World) (hW : Below w.heap.size w W) => (scAt (HSW.out.below hW).sli i hil))
  rw [h4] at HPA HSA
  subst hAs
  generalize (ls[i]'hil).1 = s at *
  obtain ⟨np, hnp⟩ : ∃ np, s.paras.length = np := ⟨_, rfl⟩
  rw [hnp] at HPA hlc4 hpl HSA
  have HNP := Lib.hid hnp
  have HND := Lib.hid (fun (W : World) (hW : Below w.heap.size w W) => needing_c (F := F) s A4 np c4 W (HPA.out.below hW HSW.out.lt) (fun b hb => Nat.lt_of_lt_of_le (HSW.out.lt b hb) hW.size) hnp hpl)
  have hbs := HSW.out.lt bs hfbs
  clear hnd hnp h4
  go_upto_region 7 with (first | (go_at_call 92; refine (HSO.out w2 HG2.out.bel).mono ?_; rintro e w3 ⟨M, rfl, hM, hMM, hb3⟩; have HG3 := Lib.hid (HG2.out.below hb3); have HMM := Lib.hid hMM; clear hMM hb3 HG2 HSO x0 x1) | (at_lookup; refine wpList_lookup_plain _ rfl _ _ 116 true rfl 9 3 keyTc Tryz.underlying116 (.int .i64 0) (zeroIc _) M _ rfl HMM.out no rfl ?_; rw [HLK.out]; simp only [if_true, Option.map_some, Option.getD_some, Option.isSome_some]) | fail)
  obtain ⟨x0, x1⟩ := HXC.out w3 HG3.out
  have HC := Lib.hid (HCV.out HOK.out hL3 w3 HG3.out.bel)
  clear HMM HCV HLK
  go_wp2_with fail
  refine HC.out.mono ?_
  rintro e w4 ⟨OUT, mb, ms, rfl, hNM⟩
  have HNM := Lib.hid hNM
  have HG4 := Lib.hid (HG3.out.below hNM.bel)
  clear hNM HC HG3 x0 x1
  have o1 : w4.cell? ⟨OUT, i, none⟩ = some (.map (some (mb i))) := ((HNM.out.cell (b := OUT) (cs := outCs n mb n) (T := 154) (by simp)).1 i).trans (by rw [outCs_get n mb n i hiN, if_pos hiN])
  obtain ⟨x0, x1⟩ := HXC.out w4 HG4.out
  obtain ⟨bs', of2', hAs, _, s0, s1, s2, s3, s4⟩ := HSA.out w4 HG4.out.bel
  injection hAs with hAs
  injection hAs with hA1 hA2
  subst hA1
  subst hA2
  have hbs4 : bs < w4.heap.size := World.block_lt_of_cell? _ _ s0
  have HN4 := Lib.hid (HND.out w4 HG4.out.bel)
  clear HSA HND HXC
  go_upto_region 9 with (fail)
  clear o1
  go_wp2_with fail
  refine HN4.out.mono ?_
  rintro e w5 ⟨nv, rfl, hown5, hb5⟩
  have HG5 := Lib.hid (HG4.out.below hb5)
  have HM5 := Lib.hid (HNM.out.below hb5)
  have HI5 := Lib.hid (hown5.sliF (F := fun q => q < w5.heap.size) (fun q hq => (hown5.block q hq).2))
  clear HN4 hown5 hb5 HG4 HNM x0 x1 s0 s1 s2 s3 s4
  obtain ⟨A5, c5, rfl, hlc5, hcm5⟩ := HI5.out.form
  obtain ⟨m, hm⟩ : ∃ m, (needL s.paras).length = m := ⟨_, rfl⟩
  have HMM := Lib.hid hm
  rw [hm] at HI5 hlc5 ⊢
  have hmb : m ≤ 1000000 := by
    rw [← hm]
    unfold needL
    exact Nat.le_trans (needTo_len _ _) (by rw [HNP.out]; exact hpl)
  clear hm
  have HB5 := Lib.hid HG5.out.bel
  clear HG5
  go_wp2
  go_loopw [14, 49] (fun ov iv wr => ∃ k : Nat, k ≤ m ∧ iv = .int .i64 k ∧ Hid (BO cvdR 75 w5 (((needL s.paras).take k).map (cvdOf (ls.map (·.1)) (tl.map (·.1)) i)) ov [] wr)) (fun _ iv _ => m - (intOf iv).toNat)
  case atStart => exact ⟨0, Nat.zero_le _, rfl, BO.start w5⟩
  case round =>
    obtain ⟨k, hk, rfl, HG⟩ := hrel
    by_cases hlt : k < m
    · have hk2 : k < (needL s.paras).length := by rw [HMM.out]; exact hlt
      obtain ⟨bi, oi, rfl, hfi, d0⟩ := intAt (HI5.out.below HG.out.bel (fun _ h => h)) k hk2
      have HNX := Lib.hid (cov_next (ls.map (·.1)) (tl.map (·.1)) i (needL s.paras) k hk2)
      obtain ⟨qn, hqn⟩ : ∃ qn, (((needL s.paras).take k).map (cvdOf (ls.map (·.1)) (tl.map (·.1)) i)).length = qn := ⟨_, rfl⟩
      have hqk : qn ≤ 1000000 := by rw [← hqn, List.length_map, List.length_take]; omega
      have HQ := Lib.hid hqn
      generalize ((needL s.paras).take k).map (cvdOf (ls.map (·.1)) (tl.map (·.1)) i) = cur at *
      generalize ((needL s.paras)[k]'hk2) = q at *
      have HM6 := Lib.hid (HM5.out.below HG.out.bel)
      have HMP := Lib.hid (HM6.out.map i hiN)
      have hOW := HM6.out.at_ hiN q
      obtain ⟨A6, c6, hv6, hlc6, _⟩ := (hOW.sliF (F := fun b => b < wr.heap.size) (fun b hb => (hOW.block b hb).2)).form
      have HV6 := Lib.hid hv6
      rw [hv6] at hOW
      have HOW := Lib.hid hOW
      have hcl : (cvs (ls.map (·.1)) (tl.map (·.1)) i q).length ≤ 900000000 := by
        refine Nat.le_trans (cvsTo_len (ls.map (·.1)) (tl.map (·.1)) 300000 (fun t ht => by obtain ⟨y, hy, rfl⟩ := List.mem_map.1 ht; exact (HT.out.bd y hy).2.2.2.2) i q _) ?_
        rw [List.length_map, HL.out]; omega
      have hps : ∀ p ∈ cvs (ls.map (·.1)) (tl.map (·.1)) i q, p.1 < tl.length := fun p hp => by obtain ⟨ha, _⟩ := cvsTo_mem hp; rw [List.length_map] at ha; exact ha
      have HCD := Lib.hid (show cvdOf (ls.map (·.1)) (tl.map (·.1)) i q = (q, ((cvs (ls.map (·.1)) (tl.map (·.1)) i q).length : Int), ((gdL (tl.map (·.1)) (cvs (ls.map (·.1)) (tl.map (·.1)) i q)).length : Int), ((((gdL (tl.map (·.1)) (cvs (ls.map (·.1)) (tl.map (·.1)) i q)).filter fun p => p.2.on).length : Nat) : Int)) from rfl)
      generalize hcv : (cvs (ls.map (·.1)) (tl.map (·.1)) i q) = cl at *
      obtain ⟨gl, hgl⟩ : ∃ gl, gdL (tl.map (·.1)) cl = gl := ⟨_, rfl⟩
      have hgn : gl.length ≤ 900000000 := by rw [← hgl]; exact Nat.le_trans (List.length_filter_le _ _) hcl
      rw [hgl] at HCD
      have hSL : Sli prtR wr (fun b => b < wr.heap.size) cl (.slice A6 cl.length c6) := HOW.out.sliF (fun b hb => (HOW.out.block b hb).2)
      have hGD := fun (W : World) (hW : Below wr.heap.size wr W) => good_c cl (.slice A6 cl.length c6) tl (.slice A2 tl.length c2) W (hSL.below hW (fun _ h => h)) (fun b hb => Nat.lt_of_lt_of_le hb hW.size) hps (by rw [HL.out]; exact HT.out.below (HB5.out.trans ((HG.out.bel.trans (hW.mono HG.out.size)).mono HB5.out.size))) (by omega)
      rw [HL.out] at hGD
      unfold GdP at hGD
      rw [hgl] at hGD
      obtain ⟨cn, hcn⟩ : ∃ cn, cl.length = cn := ⟨_, rfl⟩
      rw [hcn] at hGD HCD HV6 hcl
      have HGD := Lib.hid hGD
      have HM6' := Lib.hid HMP.out
      clear hcv hcn hv6 hOW HOW hgl hqn hSL hGD hps HM6
      go_upto_region 13 with (first | (at_lookup; refine wpList_lookup_plain _ rfl _ _ 154 false rfl 3 158 keyPt undPm (.slice none 0 0) (zeroPs _) (mb i) (ms i) rfl HMP.out q rfl ?_; simp only [Bool.false_eq_true, if_false]; rw [HV6.out]) | fail)
      have hG6 := HG.out.new (cdCs q (cn : Int) 0 0) 75
      have hP6 := HMP.out.alloc (.cells (cdCs q (cn : Int) 0 0) 75)
      have hB6 := (Below.refl wr.heap.size wr).alloc (Nat.le_refl _) (.cells (cdCs q (cn : Int) 0 0) 75)
      have hzY : wr.heap.size < (wr.alloc (.cells (cdCs q (cn : Int) 0 0) 75)).heap.size := by simp
      have hwz := HG.out.size
      rw [show cdCs q (cn : Int) 0 0 = #[.int .i64 q, .int .i64 (cn : Int), .int .i64 0, .int .i64 0] from rfl] at hP6 hB6 hzY
      generalize hW : wr.alloc (.cells #[.int .i64 q, .int .i64 (cn : Int), .int .i64 0, .int .i64 0] 75) = wY at *
      have HG6 := Lib.hid (show BO cvdR 75 w5 cur u14 [(wr.heap.size, cdCs q (cn : Int) 0 0, 75)] wY by rw [← hW]; exact hG6)
      have HP6 := Lib.hid hP6
      have HC6 := Lib.hid (HGD.out wY hB6)
      clear hG6 hP6 hB6 hW HG HMP HM6' HGD d0
      generalize wr.heap.size = Y at *
      go_wp2_with (first | (at_lookup; refine wpList_lookup_plain _ rfl _ _ 154 false rfl 3 158 keyPt undPm (.slice none 0 0) (zeroPs _) (mb i) (ms i) rfl HP6.out q rfl ?_; simp only [Bool.false_eq_true, if_false]; rw [HV6.out]) | fail)
      refine HC6.out.mono ?_
      rintro e w7 ⟨gv, rfl, hown7, hb7⟩
      have HG7 := Lib.hid (HG6.out.below hb7)
      have hbz7 := hb7.size
      have hSG : Sli prtR w7 (fun b => Y < b ∧ b < w7.heap.size) gl gv := hown7.sliF (fun b hb => ⟨by have := (hown7.block b hb).1; omega, (hown7.block b hb).2⟩)
      obtain ⟨A7, c7, rfl, hlc7, _⟩ := hSG.form
      obtain ⟨gn, hgn'⟩ : ∃ gn, gl.length = gn := ⟨_, rfl⟩
      have HGN := Lib.hid hgn'
      rw [hgn'] at hSG hlc7 hgn HCD
      rw [hgn']
      have HSG := Lib.hid hSG
      clear hown7 hb7 hSG hgn' HC6 HP6 HG6 HV6
      go_wp2
      go_loopw [65] (fun iv wr => ∃ (j : Nat) (oc : Nat), j ≤ gn ∧ iv = .int .i64 j ∧ oc ≤ j ∧ Hid ((oc : Int) = ((((gl.take j).filter fun p => p.2.on).length : Nat) : Int)) ∧ Hid (BO cvdR 75 w5 cur u14 [(Y, cdCs q (cn : Int) (j : Int) (oc : Int), 75)] wr) ∧ Hid (w7.grownBy wr (some Y))) (fun iv _ => gn - (intOf iv).toNat)
      case atStart => exact ⟨0, 0, Nat.zero_le _, rfl, Nat.le_refl _, rfl, HG7.out, gRefl _ _⟩
      case round =>
        clear HG7
        obtain ⟨j, oc, hj, rfl, hoc, HOC, HG, HGR⟩ := hrel
        by_cases hjl : j < gn
        · have hj2 : j < gl.length := by rw [HGN.out]; exact hjl
          obtain ⟨bg, og, rfl, hfg, e0, e1, e2, e3, e4⟩ := prtAt (HSG.out.keep (fun b hb => HGR.out.block b hb.2 (by intro e; injection e with e; omega))) j hj2
          have HON := Lib.hid (on_next gl j hj2)
          generalize (gl[j]'hj2) = pp at *
          obtain ⟨pa, py⟩ := pp
          dsimp only at e0 e1 e2 e3 e4
          have hG8 := HG.out.alloc (.cells #[.int .i64 (pa : Int), .int .i64 py.para, .int .i64 py.tin, .int .i64 py.tout, .bool py.on] 161)
          have hR8 := gAlloc HGR.out (.cells #[.int .i64 (pa : Int), .int .i64 py.para, .int .i64 py.tin, .int .i64 py.tout, .bool py.on] 161)
          have hnw := heap_alloc_new wr (.cells #[.int .i64 (pa : Int), .int .i64 py.para, .int .i64 py.tin, .int .i64 py.tout, .bool py.on] 161)
          have hYr : Y < wr.heap.size := HG.out.plt (p := (Y, cdCs q (cn : Int) (j : Int) (oc : Int), 75)) (by simp)
          go_upto_region 16 with (fail)
          generalize wr.alloc (.cells #[.int .i64 (pa : Int), .int .i64 py.para, .int .i64 py.tin, .int .i64 py.tout, .bool py.on] 161) = w8 at *
          have f4 : w8.cell? ⟨wr.heap.size, 4, none⟩ = some (.bool py.on) := (str_cells hnw).1 4
          obtain ⟨z, zf⟩ := hG8.cell (p := (Y, cdCs q (cn : Int) (j : Int) (oc : Int), 75)) (by simp)
          have z2 : w8.cell? ⟨Y, 2, none⟩ = some (.int .i64 (j : Int)) := z 2
          have z3 : w8.cell? ⟨Y, 3, none⟩ = some (.int .i64 (oc : Int)) := z 3
          have zf2 : w8.frozen? ⟨Y, 2, none⟩ = false := zf 2
          have zf3 : w8.frozen? ⟨Y, 3, none⟩ = false := zf 3
          have hG9 := hG8.set (i := 2) (fun h => h) (.int .i64 ((j : Int) + 1)) (by simp)
          have hR9 := gTrans hR8 (gPut w8 ⟨Y, 2, none⟩ (.int .i64 ((j : Int) + 1)))
          have hneZ : ¬ wr.heap.size = Y := by omega
          have hZ8 : wr.heap.size < w8.heap.size := World.block_lt_of_cell? _ _ f4
          have HG9 := Lib.hid (show BO cvdR 75 w5 cur u14 [(Y, cdCs q (cn : Int) (((j + 1 : Nat) : Int)) (oc : Int), 75)] (w8.setCell ⟨Y, 2, none⟩ (.int .i64 ((j : Int) + 1))) from hG9)
          have HR9 := Lib.hid hR9
          clear z zf hnw hG8 hR8 hG9 hR9 HG HGR e0 e1 e2 e3 e4
          cases hon : py.on with
          | false =>
            rw [hon] at f4
            have HO2 := Lib.hid (show (oc : Int) = ((((gl.take (j + 1)).filter fun p => p.2.on).length : Nat) : Int) by rw [HON.out, ← HOC.out, if_neg (by rw [hon]; decide)]; omega)
            clear hon HON HOC
            go_wp2
            go_roundw
            case rel => exact ⟨j + 1, oc, by omega, intNum, by omega, HO2.out, HG9.out, HR9.out⟩
            case measure => simp [intOf]; omega
          | true =>
            rw [hon] at f4
            have HO2 := Lib.hid (show ((oc + 1 : Nat) : Int) = ((((gl.take (j + 1)).filter fun p => p.2.on).length : Nat) : Int) by rw [HON.out, ← HOC.out, if_pos hon]; omega)
            have HG10 := Lib.hid (show BO cvdR 75 w5 cur u14 [(Y, cdCs q (cn : Int) (((j + 1 : Nat) : Int)) (((oc + 1 : Nat) : Int)), 75)] ((w8.setCell ⟨Y, 2, none⟩ (.int .i64 ((j : Int) + 1))).setCell ⟨Y, 3, none⟩ (.int .i64 ((oc : Int) + 1))) from by
              have h := HG9.out.set (i := 3) (fun h => h) (.int .i64 ((oc : Int) + 1)) (by simp)
              rw [show ((oc + 1 : Nat) : Int) = (oc : Int) + 1 from by omega]
              exact h)
            have HR10 := Lib.hid (gTrans HR9.out (gPut _ ⟨Y, 3, none⟩ (.int .i64 ((oc : Int) + 1))))
            clear hon HON HOC HG9 HR9
            go_wp2
            go_roundw
            case rel => exact ⟨j + 1, oc + 1, by omega, intNum, by omega, HO2.out, HG10.out, HR10.out⟩
            case measure => simp [intOf]; omega
        · have hjn : j = gn := by omega
          subst hjn
          have HCD2 := Lib.hid (show cvdOf (ls.map (·.1)) (tl.map (·.1)) i q = (q, (cn : Int), (j : Int), (oc : Int)) by rw [HCD.out, HOC.out, List.take_of_length_le (by rw [HGN.out]; exact Nat.le_refl _)])
          obtain ⟨z, zf⟩ := HG.out.cell (p := (Y, cdCs q (cn : Int) (j : Int) (oc : Int), 75)) (by simp)
          have z0 : wr.cell? ⟨Y, 0, none⟩ = some (.int .i64 q) := z 0
          have z1 : wr.cell? ⟨Y, 1, none⟩ = some (.int .i64 (cn : Int)) := z 1
          have z2 : wr.cell? ⟨Y, 2, none⟩ = some (.int .i64 (j : Int)) := z 2
          have z3 : wr.cell? ⟨Y, 3, none⟩ = some (.int .i64 (oc : Int)) := z 3
          have HG1 := Lib.hid (HG.out.less (Q := []) (by simp))
          clear z zf HGR HSG HOC HCD HG hj
          go_wp2_with (at_builtin; (refine wpList_pushB (R := cvdR) rfl _ _ _ rfl w5.heap.size w5.heap.size 75 i0 _ 32 Tryz.underlying55 hi0 hz0 hz1 hz2 rfl (by decide) _ u14 cur rfl (HG1.out.own.alloc _) (q, (cn : Int), (j : Int), (oc : Int)) _ rfl (oneC rfl) wr.heap.size _ _ (heap_alloc_new wr _) rfl (by rw [HQ.out]; simp [maxLen]; omega) (by rw [HQ.out]; omega) (by have := HG1.out.size; simp; omega) ?_); intro g7 cap7 w9 hown9 hg9 hat9 hlt9)
          go_roundw
          case rel => exact ⟨k + 1, by omega, intNum, by rw [HNX.out, HCD2.out]; exact Lib.hid ((HG1.out.alloc (.cells #[.int .i64 q, .int .i64 (cn : Int), .int .i64 (j : Int), .int .i64 (oc : Int)] 75)).more hown9 hg9 rfl hat9)⟩
          case measure => simp [intOf]; omega
    · have hkm : k = m := by omega
      have HE := Lib.hid (show ((needL s.paras).take k).map (cvdOf (ls.map (·.1)) (tl.map (·.1)) i) = coverL (ls.map (·.1)) (tl.map (·.1)) i by rw [HCO.out, List.take_of_length_le (by rw [HMM.out]; omega)])
      have hz5 := HB5.out.size
      clear hkm hk
      go_wp2
      go_ret2
      exact CovP.some_ HCE.out HOP.out (by rw [← HE.out]; exact HG.out.own.less hz5) (HB5.out.trans (HG.out.bel.mono hz5))
end Go.Proofs.YtmefjkfjpgblcaaGreatDoor

/- take.Missing, walked. -/
namespace Go.Proofs.YtmefjkfjpgblcaaGreatDoor
set_option linter.unusedVariables false
open Go.RowKit Go.Sort

def spoR : Rep (Int × Int × Int) := Rep.flat 3 (fun x => [.int .i64 x.1, .int .i64 x.2.1, .int .i64 x.2.2]) (fun _ => rfl)
/-- Blocks laid between two worlds lie as they lay, and a growing list's row is none of them. -/
def KeepR (a : Nat) (wA : World) (v : Value) (W : World) : Prop := (∀ b, a ≤ b → b < wA.heap.size → W.heap[b]? = wA.heap[b]?) ∧ (∀ g, v.ownBlock = some g → g < a ∨ wA.heap.size ≤ g) ∧ wA.heap.size ≤ W.heap.size
theorem KeepR.below {a : Nat} {wA W W' : World} {v : Value} (h : KeepR a wA v W) (hb : Below W.heap.size W W') : KeepR a wA v W' := ⟨fun b h1 h2 => (hb.block b (Nat.lt_of_lt_of_le h2 h.2.2)).trans (h.1 b h1 h2), h.2.1, Nat.le_trans h.2.2 hb.size⟩
theorem KeepR.push {a g : Nat} {wA W W' : World} {v v' : Value} (h : KeepR a wA v W) (hg : W.grownBy W' v.ownBlock) (hv : v'.ownBlock = some g) (hat : v.ownBlock = some g ∨ g = W.heap.size) : KeepR a wA v' W' :=
  ⟨fun b h1 h2 => (hg.block b (Nat.lt_of_lt_of_le h2 h.2.2) (fun e => by have := h.2.1 b e.symm; omega)).trans (h.1 b h1 h2), fun q hq => by
    rw [hv] at hq
    injection hq with hq
    subst hq
    rcases hat with hat | hat
    · exact h.2.1 _ hat
    · have := h.2.2; exact .inr (by omega), Nat.le_trans h.2.2 hg.size⟩
def missIn (sc : List Scene) (tl : List Tk) (i : Nat) (nl : List Int) (j : Nat) : List (Int × Int × Int) := ((nl.take j).filter fun q => decide ((gdL tl (cvs sc tl i q)).length = 0)).map fun q => ((i : Int), q, 0)
theorem missIn_next (sc : List Scene) (tl : List Tk) (i : Nat) (nl : List Int) (j : Nat) (hj : j < nl.length) : missIn sc tl i nl (j + 1) = missIn sc tl i nl j ++ (if (gdL tl (cvs sc tl i nl[j])).length = 0 then [((i : Int), nl[j], 0)] else []) := by
  unfold missIn
  rw [List.take_succ_eq_append_getElem hj, List.filter_append, List.map_append]
  congr 1
  by_cases h : (gdL tl (cvs sc tl i nl[j])).length = 0
  · rw [if_pos h, List.filter_cons_of_pos (by exact decide_eq_true h)]; rfl
  · rw [if_neg h, List.filter_cons_of_neg (by exact fun e => h (of_decide_eq_true e))]; rfl
theorem missIn_len (sc : List Scene) (tl : List Tk) (i : Nat) (nl : List Int) (j : Nat) : (missIn sc tl i nl j).length ≤ j := by
  unfold missIn
  rw [List.length_map]
  refine Nat.le_trans (List.length_filter_le _ _) ?_
  rw [List.length_take]; omega
theorem missTo_next (sc : List Scene) (tl : List Tk) (k : Nat) (hk : k < sc.length) : missTo sc tl (k + 1) = missTo sc tl k ++ missIn sc tl k (needL sc[k].paras) (needL sc[k].paras).length := by
  unfold missTo
  rw [List.range_succ, List.flatMap_append]
  congr 1
  simp only [List.flatMap_cons, List.flatMap_nil, List.append_nil]
  unfold missI missIn
  rw [List.getElem?_eq_getElem hk, List.take_length]
  rfl
theorem missTo_len (sc : List Scene) (tl : List Tk) (C : Nat) (hC : ∀ s ∈ sc, s.paras.length ≤ C) : ∀ k, k ≤ sc.length → (missTo sc tl k).length ≤ k * C
  | 0, _ => by simp [missTo]
  | k + 1, hk => by
    rw [missTo_next sc tl k (by omega), List.length_append, Nat.add_mul]
    have h1 := missTo_len sc tl C hC k (by omega)
    have h2 := missIn_len sc tl k (needL sc[k].paras) (needL sc[k].paras).length
    have h3 := needTo_len sc[k].paras sc[k].paras.length
    have h4 := hC sc[k] (List.getElem_mem _)
    have h5 : (needL sc[k].paras).length ≤ sc[k].paras.length := h3
    omega
def misL (x : Script) (rl : List Roll) (tl : List Tk) : List (Int × Int × Int) := if ¬ tksChk x rl tl = 0 then [] else missL x.scenes tl
def MisP (x : Script) (rl : List Roll) (tl : List Tk) (w : World) (e : Ending) (w' : World) : Prop := ∃ v, e = .returned (.tuple #[v, .int .i64 (tksChk x rl tl)]) ∧ Own spoR w' w.heap.size w.heap.size 66 (misL x rl tl) v ∧ Below w.heap.size w w'
theorem MisP.bad {x : Script} {rl : List Roll} {tl : List Tk} {q : Int} {w w' : World} (h : tksChk x rl tl = q) (h0 : ¬ q = 0) (hb : Below w.heap.size w w') : MisP x rl tl w (.returned (.tuple #[.slice none 0 0, .int .i64 q])) w' := by
  subst h
  exact ⟨_, rfl, by unfold misL; rw [if_pos h0]; exact Own.nil_, hb⟩
theorem MisP.ok {x : Script} {rl : List Roll} {tl : List Tk} {w w' : World} {v : Value} (h : tksChk x rl tl = 0) (ho : Own spoR w' w.heap.size w.heap.size 66 (missL x.scenes tl) v) (hb : Below w.heap.size w w') : MisP x rl tl w (.returned (.tuple #[v, .int .i64 0])) w' := by
  exact ⟨v, by rw [h], by unfold misL; rw [if_neg (fun k => k h)]; exact ho, hb⟩
set_option maxRecDepth 100000 in
set_option maxHeartbeats 16000000 in
theorem Missing_c {F F2 : Nat → Prop} (t : ByteArray) (ls : List (Scene × Value)) (v : Value) (A1 : Option Addr) (rl : List Roll) (c1 lo : Nat) (tl : List (Tk × Value)) (tv : Value) (w : World) (h : ScL w F t ls v) (hr : Rs w lo w.heap.size 5 Roll.cells A1 rl) (hlen : rl.length ≤ 1000000) (hnm : ∀ r ∈ rl, r.name.size ≤ 140737488355328) (ht : TkW w F2 tl tv) (hm : MaxLaid w) (hN : ls.length ≤ 100000) (hP : ∀ y ∈ ls, y.1.paras.length ≤ 1000) :
    Calls Tryz.prog 32 #[.agg #[.string t, v], .slice A1 rl.length c1, tv] w (MisP ⟨t, ls.map (·.1)⟩ rl (tl.map (·.1)) w) := by
  obtain ⟨A, c, rfl, hlc, hcm⟩ := h.sli.form
  obtain ⟨A2, c2, rfl, hlc2, hcm2⟩ := ht.sli.form
  obtain ⟨i0, hi0, hz0, hz1, hz2⟩ := info_parts (show (Tryz.prog.info? 66).map (fun i => (i.zero, i.size, i.bytes)) = some (some (.agg #[.int .i64 0, .int .i64 0, .int .i64 0]), 3, 24) by kernel_rfl)
  obtain ⟨n, hn⟩ : ∃ n, ls.length = n := ⟨_, rfl⟩
  obtain ⟨L, hL⟩ : ∃ L, tl.length = L := ⟨_, rfl⟩
  obtain ⟨R, hR⟩ : ∃ R, rl.length = R := ⟨_, rfl⟩
  have HL := Lib.hid hL
  have HNN := Lib.hid hn
  have HSW := Lib.hid h
  have HT := Lib.hid ht
  have hG0 := (pvStart w).new #[.string t, .slice A ls.length c] 44
  have hCK := fun (W : World) (hW : Below w.heap.size w W) => CheckTakes_c t ls (.slice A ls.length c) A1 rl c1 lo tl (.slice A2 tl.length c2) W (h.below hW) ((hr.below hW (Nat.le_refl _)).more (Nat.le_refl _) hW.size) hlen hnm (ht.below hW) (max_below hm hW (Nat.le_refl _))
  have hCV := fun (hok : CvOk (ls.map (·.1)) (tl.map (·.1))) (hL3 : tl.length ≤ 3000) (W : World) (hW : Below w.heap.size w W) => covering_c t ls (.slice A ls.length c) tl (.slice A2 tl.length c2) W (h.below hW) (ht.below hW) hok hN hL3
  rw [hn] at hlc hG0 hCK hCV hN
  rw [hR, hL] at hCK
  rw [hL] at hCV hlc2
  rw [hn, hL, hR]
  rw [hn] at HSW
  rw [hL] at HT
  have HCK := Lib.hid hCK
  have HCV := Lib.hid hCV
  have HG0 := Lib.hid hG0
  clear h hr hnm ht hm hG0 hCK hCV hn hL hR
  go_enter Tryz.func32, Tryz.ntmps32
  go_upto_region 1 with (fail)
  have hXc := (HG0.out.cell (p := (w.heap.size, #[.string t, .slice A n c], 44)) (by simp)).1
  have x0 : (w.alloc (.cells #[.string t, .slice A n c] 44)).cell? ⟨w.heap.size, 0, none⟩ = some (.string t) := hXc 0
  have x1 : (w.alloc (.cells #[.string t, .slice A n c] 44)).cell? ⟨w.heap.size, 1, none⟩ = some (.slice A n c) := hXc 1
  clear hXc
  generalize w.alloc (.cells #[.string t, .slice A n c] 44) = w1 at *
  go_wp2_with fail
  refine (HCK.out w1 HG0.out.bel).mono ?_
  rintro e w2 ⟨rfl, hb2⟩
  have HG2 := Lib.hid (HG0.out.below hb2)
  clear hb2 HCK HG0 x0 x1
  obtain ⟨ce, hce⟩ : ∃ ce, tksChk ⟨t, ls.map (·.1)⟩ rl (tl.map (·.1)) = ce := ⟨_, rfl⟩
  have HCE := Lib.hid hce
  rw [hce]
  clear hce
  by_cases h0 : ce = 0
  case neg =>
    have hne : (ce != 0) = true := by rw [bne_iff_ne]; exact h0
    have H0 := Lib.hid h0
    clear h0
    go_wp2
    go_ret2
    exact MisP.bad HCE.out H0.out HG2.out.bel
  subst h0
  have HXC := Lib.hid (fun (W : World) (hW : PvG w [(w.heap.size, #[.string t, .slice A n c], 44)] W) => show W.cell? ⟨w.heap.size, 0, none⟩ = some (.string t) ∧ W.cell? ⟨w.heap.size, 1, none⟩ = some (.slice A n c) from by
    have hXc := (hW.cell (p := (w.heap.size, #[.string t, .slice A n c], 44)) (by simp)).1
    exact ⟨hXc 0, hXc 1⟩)
  obtain ⟨hS0, _, hL3, _⟩ := tksChk_ok HCE.out
  rw [List.length_map, HL.out] at hL3
  have HOK := Lib.hid (CvOk.of HCE.out)
  obtain ⟨x0, x1⟩ := HXC.out w2 HG2.out
  clear hS0
  go_upto_region 4 with (fail)
  have HC := Lib.hid (HCV.out HOK.out hL3 w2 HG2.out.bel)
  clear HCV
  go_wp2_with fail
  refine HC.out.mono ?_
  rintro e w4 ⟨OUT, mb, ms, rfl, hNM⟩
  have HNM := Lib.hid hNM
  have HG4 := Lib.hid (HG2.out.below hNM.bel)
  clear hNM HC HG2 x0 x1
  obtain ⟨x0, x1⟩ := HXC.out w4 HG4.out
  have HB4 := Lib.hid HG4.out.bel
  have HPB := Lib.hid hP
  clear HXC HG4 hP
  go_wp2
  go_loopw [10, 28] (fun ov iv wr => ∃ k : Nat, k ≤ n ∧ iv = .int .i64 k ∧ Hid (BO spoR 66 w4 (missTo (ls.map (·.1)) (tl.map (·.1)) k) ov [] wr)) (fun _ iv _ => n - (intOf iv).toNat)
  case atStart => exact ⟨0, Nat.zero_le _, rfl, BO.start w4⟩
  case round =>
    clear x0 x1
    obtain ⟨k, hk, rfl, HG⟩ := hrel
    by_cases hlt : k < n
    · have hil : k < ls.length := by rw [HNN.out]; exact hlt
      have HBW := Lib.hid (HB4.out.trans (HG.out.bel.mono HB4.out.size))
      obtain ⟨bs, of2, rfl, hfbs, s0, s1, s2, s3, s4⟩ := scAt (HSW.out.below HBW.out).sli k hil
      obtain ⟨A4, c4, h4, hlc4, _⟩ := (HSW.out.par _ (List.getElem_mem hil)).form
      have HPA := Lib.hid (HSW.out.par _ (List.getElem_mem hil))
      have hsk : k < (ls.map (·.1)).length := by rw [List.length_map]; exact hil
      have hmn := missTo_next (ls.map (·.1)) (tl.map (·.1)) k hsk
      rw [List.getElem_map] at hmn
      have hml := missTo_len (ls.map (·.1)) (tl.map (·.1)) 1000 (fun s hs => by obtain ⟨y, hy, rfl⟩ := List.mem_map.1 hs; exact HPB.out y hy) k (by rw [List.length_map, HNN.out]; exact hk)
      have hml2 : (missTo (ls.map (·.1)) (tl.map (·.1)) k).length ≤ 100000000 := by omega
      have hpl := HPB.out _ (List.getElem_mem hil)
      rw [h4] at HPA s4
      have hbs : bs < wr.heap.size := World.block_lt_of_cell? _ _ s0
      generalize (ls[k]'hil).1 = s at *
      obtain ⟨np, hnp⟩ : ∃ np, s.paras.length = np := ⟨_, rfl⟩
      rw [hnp] at HPA hlc4 hpl s4
      have HMN := Lib.hid hmn
      have hG5 := HG.out.alloc (.cells #[.string s.no, .int .i64 s.place, .string s.set, .int .i64 s.time, .slice A4 np c4] 119)
      have hnw := heap_alloc_new wr (.cells #[.string s.no, .int .i64 s.place, .string s.set, .int .i64 s.time, .slice A4 np c4] 119)
      go_upto_region 9 with (fail)
      generalize wr.alloc (.cells #[.string s.no, .int .i64 s.place, .string s.set, .int .i64 s.time, .slice A4 np c4] 119) = w5 at *
      obtain ⟨y, _⟩ := str_cells hnw
      have y0 : w5.cell? ⟨wr.heap.size, 0, none⟩ = some (.string s.no) := y 0
      have y1 : w5.cell? ⟨wr.heap.size, 1, none⟩ = some (.int .i64 s.place) := y 1
      have y2 : w5.cell? ⟨wr.heap.size, 2, none⟩ = some (.string s.set) := y 2
      have y3 : w5.cell? ⟨wr.heap.size, 3, none⟩ = some (.int .i64 s.time) := y 3
      have y4 : w5.cell? ⟨wr.heap.size, 4, none⟩ = some (.slice A4 np c4) := y 4
      have HG5 := Lib.hid hG5
      have HBW5 := Lib.hid (HB4.out.trans (hG5.bel.mono HB4.out.size))
      have HN5 := Lib.hid (needing_c (F := F) s A4 np c4 w5 (HPA.out.below HBW5.out HSW.out.lt) (fun b hb => Nat.lt_of_lt_of_le (HSW.out.lt b hb) HBW5.out.size) hnp (by omega))
      clear y hnw hG5 hmn h4 HG s0 s1 s2 s3 s4 HBW hsk hml
      go_wp2_with fail
      refine HN5.out.mono ?_
      rintro e w6 ⟨nv, rfl, hown6, hb6⟩
      have HG6 := Lib.hid (HG5.out.below hb6)
      have HI6 := Lib.hid (hown6.sliF (F := fun q => w5.heap.size ≤ q ∧ q < w6.heap.size) (fun q hq => hown6.block q hq))
      have HK6 := Lib.hid (show KeepR w5.heap.size w6 u10 w6 from ⟨fun _ _ _ => rfl, fun g hg => .inl (HG5.out.own.block g hg).2, Nat.le_refl _⟩)
      clear HN5 hown6 hb6 HG5 y0 y1 y2 y3 y4 HBW5
      obtain ⟨A6, c6, rfl, hlc6, hcm6⟩ := HI6.out.form
      obtain ⟨m, hm⟩ : ∃ m, (needL s.paras).length = m := ⟨_, rfl⟩
      have HMM := Lib.hid hm
      rw [hm] at HI6 hlc6 HMN ⊢
      have hmb : m ≤ 1000 := by
        rw [← hm]
        unfold needL
        exact Nat.le_trans (needTo_len _ _) (by rw [hnp]; exact hpl)
      clear hm
      generalize missTo (ls.map (·.1)) (tl.map (·.1)) k = cur0 at *
      go_wp2
      go_loopw [10, 36] (fun ov iv wr => ∃ j : Nat, j ≤ m ∧ iv = .int .i64 j ∧ Hid (BO spoR 66 w4 (cur0 ++ missIn (ls.map (·.1)) (tl.map (·.1)) k (needL s.paras) j) ov [] wr) ∧ Hid (KeepR w5.heap.size w6 ov wr)) (fun _ iv _ => m - (intOf iv).toNat)
      case atStart => exact ⟨0, Nat.zero_le _, rfl, by rw [show missIn (ls.map (·.1)) (tl.map (·.1)) k (needL s.paras) 0 = [] from rfl, List.append_nil]; exact HG6, HK6.out⟩
      case round =>
        clear HG6 HK6
        obtain ⟨j, hj, rfl, HG, HK⟩ := hrel
        by_cases hjlt : j < m
        · have hj2 : j < (needL s.paras).length := by rw [HMM.out]; exact hjlt
          obtain ⟨bi, oi, rfl, hfi, d0⟩ := intAt (HI6.out.keep (fun b hb => HK.out.1 b hb.1 hb.2)) j hj2
          have HNX := Lib.hid (missIn_next (ls.map (·.1)) (tl.map (·.1)) k (needL s.paras) j hj2)
          have hmil := missIn_len (ls.map (·.1)) (tl.map (·.1)) k (needL s.paras) j
          obtain ⟨qn, hqn⟩ : ∃ qn, (cur0 ++ missIn (ls.map (·.1)) (tl.map (·.1)) k (needL s.paras) j).length = qn := ⟨_, rfl⟩
          have hqk : qn ≤ 100001000 := by rw [← hqn, List.length_append]; omega
          have HQ := Lib.hid hqn
          generalize hcr : missIn (ls.map (·.1)) (tl.map (·.1)) k (needL s.paras) j = cr at *
          generalize ((needL s.paras)[j]'hj2) = q at *
          generalize hcc : cur0 ++ cr = cc at *
          have HCC := Lib.hid hcc
          have HM6 := Lib.hid (HNM.out.below HG.out.bel)
          have o1 : wr.cell? ⟨OUT, k, none⟩ = some (.map (some (mb k))) := ((HM6.out.cell (b := OUT) (cs := outCs n mb n) (T := 154) (by simp)).1 k).trans (by rw [outCs_get n mb n k hlt, if_pos hlt])
          have HMP := Lib.hid (HM6.out.map k hlt)
          have hOW := HM6.out.at_ hlt q
          obtain ⟨A7, c7, hv7, hlc7, _⟩ := (hOW.sliF (F := fun b => b < wr.heap.size) (fun b hb => (hOW.block b hb).2)).form
          have HV7 := Lib.hid hv7
          rw [hv7] at hOW
          have HOW := Lib.hid hOW
          have hcl : (cvs (ls.map (·.1)) (tl.map (·.1)) k q).length ≤ 900000000 := by
            refine Nat.le_trans (cvsTo_len (ls.map (·.1)) (tl.map (·.1)) 300000 (fun t ht => by obtain ⟨y, hy, rfl⟩ := List.mem_map.1 ht; exact (HT.out.bd y hy).2.2.2.2) k q _) ?_
            rw [List.length_map, HL.out]; omega
          have hps : ∀ p ∈ cvs (ls.map (·.1)) (tl.map (·.1)) k q, p.1 < tl.length := fun p hp => by obtain ⟨ha, _⟩ := cvsTo_mem hp; rw [List.length_map] at ha; exact ha
          generalize hcv : (cvs (ls.map (·.1)) (tl.map (·.1)) k q) = cl at *
          obtain ⟨gl, hgl⟩ : ∃ gl, gdL (tl.map (·.1)) cl = gl := ⟨_, rfl⟩
          rw [hgl] at HNX
          have hSL : Sli prtR wr (fun b => b < wr.heap.size) cl (.slice A7 cl.length c7) := HOW.out.sliF (fun b hb => (HOW.out.block b hb).2)
          have hGD := good_c cl (.slice A7 cl.length c7) tl (.slice A2 tl.length c2) wr hSL (fun b hb => hb) hps (by rw [HL.out]; exact HT.out.below (HB4.out.trans (HG.out.bel.mono HB4.out.size))) (by omega)
          rw [HL.out] at hGD
          unfold GdP at hGD
          rw [hgl] at hGD
          have HGD := Lib.hid hGD
          have hk0 : (0 : Int) ≤ k := by omega
          have hkn : (k : Int) < n := by omega
          clear hcv hv7 hOW HOW hgl hqn hSL hGD hps hcl HM6 hcr hcc
          go_wp2_with (first | (at_lookup; refine wpList_lookup_plain _ rfl _ _ 154 false rfl 3 158 keyPt undPm (.slice none 0 0) (zeroPs _) (mb k) (ms k) rfl HMP.out q rfl ?_; simp only [Bool.false_eq_true, if_false]; rw [HV7.out]) | fail)
          refine HGD.out.mono ?_
          rintro e w7 ⟨gv, rfl, hown7, hb7⟩
          have HG7 := Lib.hid (HG.out.below hb7)
          have HK7 := Lib.hid (HK.out.below hb7)
          obtain ⟨A8, c8, rfl, hlc8, _⟩ := (hown7.sliF (F := fun _ => True) (fun _ _ => trivial)).form
          clear hown7 hb7 HGD HMP HV7 HG HK d0 o1
          obtain ⟨gn, hgn⟩ : ∃ gn, gl.length = gn := ⟨_, rfl⟩
          rw [hgn] at HNX hlc8 ⊢
          clear hgn
          by_cases hg0 : gn = 0
          · subst hg0
            have HN2 := Lib.hid (HNX.out.trans (by rw [if_pos rfl]))
            clear HNX
            go_wp2_with (at_builtin; (refine wpList_pushB (R := spoR) rfl _ _ _ rfl w4.heap.size w4.heap.size 66 i0 _ 24 Tryz.underlying58 hi0 hz0 hz1 hz2 rfl (by decide) _ u10 cc rfl (HG7.out.own.alloc _) ((k : Int), q, 0) _ rfl (oneC rfl) w7.heap.size _ _ (heap_alloc_new w7 _) rfl (by rw [HQ.out]; simp [maxLen]; omega) (by rw [HQ.out]; omega) (by have := HG7.out.size; simp; omega) ?_); intro g9 cap9 w9 hown9 hg9 hat9 hlt9)
            go_roundw
            case rel => exact ⟨j + 1, by omega, intNum, by rw [HN2.out, ← List.append_assoc, HCC.out]; exact Lib.hid ((HG7.out.alloc (.cells #[.int .i64 (k : Int), .int .i64 q, .int .i64 0] 66)).more hown9 hg9 rfl hat9), Lib.hid ((HK7.out.below ((Below.refl _ w7).alloc (Nat.le_refl _) (.cells #[.int .i64 (k : Int), .int .i64 q, .int .i64 0] 66))).push hg9 rfl hat9)⟩
            case measure => simp [intOf]; omega
          · have hne : ((gn : Int) == 0) = false := beq_eq_false_iff_ne.2 (by omega)
            have HN2 := Lib.hid (HNX.out.trans (by rw [if_neg hg0, List.append_nil]))
            clear HNX hg0
            go_wp2
            go_roundw
            case rel => exact ⟨j + 1, by omega, intNum, by rw [HN2.out, HCC.out]; exact HG7, HK7.out⟩
            case measure => simp [intOf]; omega
        · have hjm : j = m := by omega
          subst hjm
          rw [← HMN.out] at HG
          clear hj HK HMN
          go_wp2
          go_roundw
          case rel => exact ⟨k + 1, by omega, intNum, HG.out⟩
          case measure => simp [intOf]; omega
    · have hkm : k = n := by omega
      have HE := Lib.hid (show missTo (ls.map (·.1)) (tl.map (·.1)) k = missL (ls.map (·.1)) (tl.map (·.1)) by unfold missL; rw [List.length_map, HNN.out, hkm])
      have hz5 := HB4.out.size
      clear hkm hk
      go_wp2
      go_ret2
      exact MisP.ok HCE.out (by rw [← HE.out]; exact HG.out.own.less hz5) (HB4.out.trans (HG.out.bel.mono hz5))
end Go.Proofs.YtmefjkfjpgblcaaGreatDoor

/- The reference's covers: one of a take, all of a scene. -/
namespace Go.Proofs.YtmefjkfjpgblcaaGreatDoor
set_option linter.unusedVariables false
open Go.RowKit Go.Sort

def covZ : Cov := ⟨0, 0, 0, false⟩
def cov1V (t : Tk) (q : Int) : Cov := (cov1 t q).getD covZ
theorem cov1_none {t : Tk} {q : Int} {k : Nat} (hk : ¬ k < t.covers.length) (h : ∀ c ∈ t.covers.take k, decide (c.para = q) = false) : cov1 t q = none := by
  unfold cov1
  rw [List.find?_eq_none]
  intro c hc
  rw [List.take_of_length_le (by omega)] at h
  rw [h c hc]; decide
theorem cov1_some {t : Tk} {q : Int} {k : Nat} (hk : k < t.covers.length) (h : ∀ c ∈ t.covers.take k, decide (c.para = q) = false) (he : t.covers[k].para = q) : cov1 t q = some t.covers[k] := by
  unfold cov1
  rw [List.find?_eq_some_iff_getElem]
  refine ⟨decide_eq_true he, k, hk, rfl, fun j hj => ?_⟩
  have hm : t.covers[j] ∈ t.covers.take k := List.mem_take_iff_getElem.2 ⟨j, by omega, rfl⟩
  rw [h _ hm]; rfl
def CofP (t : Tk) (q : Int) (w : World) (e : Ending) (w' : World) : Prop := e = .returned (.tuple #[.agg #[.int .i64 (cov1V t q).para, .int .i64 (cov1V t q).tin, .int .i64 (cov1V t q).tout, .bool (cov1V t q).on], .bool (cov1 t q).isSome]) ∧ Below w.heap.size w w'
set_option maxRecDepth 100000 in
set_option maxHeartbeats 4000000 in
theorem coverOf_c {F : Nat → Prop} (x : Tk) (A8 : Option Addr) (n cc8 : Nat) (q : Int) (w : World) (hv : Sli covR w F x.covers (.slice A8 n cc8)) (hF : ∀ b, F b → b < w.heap.size) (hn : x.covers.length = n) (hl : n ≤ 300000) :
    Calls Tryz.prog 108 #[.agg #[.string x.scene, .string x.setup, .int .i64 x.number, .string x.roll, .string x.sound, .int .i64 x.tin, .int .i64 x.tout, .bool x.good, .slice A8 n cc8], .int .i64 q] w (CofP x q w) := by
  have HV := Lib.hid hv
  have HF := Lib.hid hF
  have HN := Lib.hid hn
  have hG : PvG w [(w.heap.size + 1, #[.int .i64 0, .int .i64 0, .int .i64 0, .bool false], 124), (w.heap.size, tkCs x (.slice A8 n cc8), 122)] ((w.alloc (.cells (tkCs x (.slice A8 n cc8)) 122)).alloc (.cells #[.int .i64 0, .int .i64 0, .int .i64 0, .bool false] 124)) := by
    have h := ((pvStart w).new (tkCs x (.slice A8 n cc8)) 122).new #[.int .i64 0, .int .i64 0, .int .i64 0, .bool false] 124
    rw [show (w.alloc (.cells (tkCs x (.slice A8 n cc8)) 122)).heap.size = w.heap.size + 1 by simp] at h
    exact h
  clear hv hF hn
  go_enter Tryz.func108, Tryz.ntmps108
  go_upto_region 1 with (fail)
  generalize hW : (w.alloc (.cells #[.string x.scene, .string x.setup, .int .i64 x.number, .string x.roll, .string x.sound, .int .i64 x.tin, .int .i64 x.tout, .bool x.good, .slice A8 n cc8] 122)).alloc (.cells #[.int .i64 0, .int .i64 0, .int .i64 0, .bool false] 124) = w1
  have G1 := Lib.hid (show PvG w [(w.heap.size + 1, #[.int .i64 0, .int .i64 0, .int .i64 0, .bool false], 124), (w.heap.size, tkCs x (.slice A8 n cc8), 122)] w1 by rw [← hW]; exact hG)
  clear hG hW
  obtain ⟨y, _⟩ := G1.out.cell (p := (w.heap.size, tkCs x (.slice A8 n cc8), 122)) (by simp)
  have y8 : w1.cell? ⟨w.heap.size, 8, none⟩ = some (.slice A8 n cc8) := y 8
  clear y
  go_wp2
  go_loopw [11] (fun i wr => ∃ k : Nat, k ≤ n ∧ i = .int .i64 k ∧ Hid (PvG w [(w.heap.size + 1, #[.int .i64 0, .int .i64 0, .int .i64 0, .bool false], 124), (w.heap.size, tkCs x (.slice A8 n cc8), 122)] wr) ∧ Hid (∀ c ∈ x.covers.take k, decide (c.para = q) = false)) (fun i _ => n - (intOf i).toNat)
  case atStart => exact ⟨0, Nat.zero_le _, rfl, G1.out, fun c hc => by simp at hc⟩
  case round =>
    clear G1 y8
    obtain ⟨k, hk, rfl, HG, HNO⟩ := hrel
    by_cases hlt : k < n
    · have hk2 : k < x.covers.length := by rw [HN.out]; exact hlt
      obtain ⟨b, off, rfl, hfb, c0, c1, c2, c3⟩ := covAt (HV.out.below HG.out.bel HF.out) k hk2
      have HSO := Lib.hid (fun (he : x.covers[k].para = q) => cov1_some hk2 HNO.out he)
      have HNX := Lib.hid (fun (he : decide (x.covers[k].para = q) = false) => take_next (q := fun c : Cov => decide (c.para = q) = false) hk2 HNO.out he)
      generalize (x.covers[k]'hk2) = y at *
      have hbw : b < wr.heap.size := World.block_lt_of_cell? _ _ c0
      have hG2 := HG.out.new (cvCs y) 124
      have hnw := heap_alloc_new wr (.cells (cvCs y) 124)
      rw [show cvCs y = #[.int .i64 y.para, .int .i64 y.tin, .int .i64 y.tout, .bool y.on] from rfl] at hnw
      go_upto_region 4 with (fail)
      generalize hW2 : wr.alloc (.cells #[.int .i64 y.para, .int .i64 y.tin, .int .i64 y.tout, .bool y.on] 124) = w2 at *
      have HG2 := Lib.hid (show PvG w [(wr.heap.size, cvCs y, 124), (w.heap.size + 1, #[.int .i64 0, .int .i64 0, .int .i64 0, .bool false], 124), (w.heap.size, tkCs x (.slice (some ⟨b, off, none⟩) n cc8), 122)] w2 by rw [← hW2]; exact hG2)
      obtain ⟨d, _⟩ := str_cells hnw
      have d0 : w2.cell? ⟨wr.heap.size, 0, none⟩ = some (.int .i64 y.para) := d 0
      have d1 : w2.cell? ⟨wr.heap.size, 1, none⟩ = some (.int .i64 y.tin) := d 1
      have d2 : w2.cell? ⟨wr.heap.size, 2, none⟩ = some (.int .i64 y.tout) := d 2
      have d3 : w2.cell? ⟨wr.heap.size, 3, none⟩ = some (.bool y.on) := d 3
      have hlo : w.heap.size + 1 < wr.heap.size := HG.out.plt (p := (w.heap.size + 1, #[.int .i64 0, .int .i64 0, .int .i64 0, .bool false], 124)) (by simp)
      clear d hnw hG2 hW2 HG c0 c1 c2 c3 hk2
      by_cases he : y.para = q
      · have eq1 : (y.para == q) = true := beq_iff_eq.2 he
        have HS := Lib.hid (HSO.out he)
        obtain ⟨z, zf⟩ := HG2.out.cell (p := (w.heap.size + 1, #[.int .i64 0, .int .i64 0, .int .i64 0, .bool false], 124)) (by simp)
        have z0 : w2.cell? ⟨w.heap.size + 1, 0, none⟩ = some (.int .i64 0) := z 0
        have z1 : w2.cell? ⟨w.heap.size + 1, 1, none⟩ = some (.int .i64 0) := z 1
        have z2 : w2.cell? ⟨w.heap.size + 1, 2, none⟩ = some (.int .i64 0) := z 2
        have z3 : w2.cell? ⟨w.heap.size + 1, 3, none⟩ = some (.bool false) := z 3
        have f0 : w2.frozen? ⟨w.heap.size + 1, 0, none⟩ = false := zf 0
        have f1 : w2.frozen? ⟨w.heap.size + 1, 1, none⟩ = false := zf 1
        have f2 : w2.frozen? ⟨w.heap.size + 1, 2, none⟩ = false := zf 2
        have f3 : w2.frozen? ⟨w.heap.size + 1, 3, none⟩ = false := zf 3
        have HB2 := Lib.hid HG2.out.bel
        clear z zf he HSO HNX HG2 HNO
        generalize wr.heap.size = Z at *
        go_wp2
        refine ⟨rfl, .tuple #[.agg #[.int .i64 y.para, .int .i64 y.tin, .int .i64 y.tout, .bool y.on], .bool true], (by rw [results_cell_tmp rfl]; go_simp), ?_⟩
        show _ ∧ _
        exact ⟨by unfold cov1V; rw [HS.out]; rfl, (((HB2.out.setCell (by show w.heap.size ≤ w.heap.size + 1; omega) _).setCell (by show w.heap.size ≤ w.heap.size + 1; omega) _).setCell (by show w.heap.size ≤ w.heap.size + 1; omega) _).setCell (by show w.heap.size ≤ w.heap.size + 1; omega) _⟩
      · have eq1 : (y.para == q) = false := beq_eq_false_iff_ne.2 he
        have HN2 := Lib.hid (HNX.out (decide_eq_false he))
        have HG3 := Lib.hid (HG2.out.less (Q := [(w.heap.size + 1, #[.int .i64 0, .int .i64 0, .int .i64 0, .bool false], 124), (w.heap.size, tkCs x (.slice (some ⟨b, off, none⟩) n cc8), 122)]) (fun p hp => List.mem_cons_of_mem _ hp))
        clear he HSO HNX HG2 HNO
        go_wp2
        go_roundw
        case rel => exact ⟨k + 1, by omega, intNum, HG3.out, HN2.out⟩
        case measure => simp [intOf]; omega
    · have HS := Lib.hid (cov1_none (k := k) (by rw [HN.out]; exact hlt) HNO.out)
      obtain ⟨z, zf⟩ := HG.out.cell (p := (w.heap.size + 1, #[.int .i64 0, .int .i64 0, .int .i64 0, .bool false], 124)) (by simp)
      have z0 : wr.cell? ⟨w.heap.size + 1, 0, none⟩ = some (.int .i64 0) := z 0
      have z1 : wr.cell? ⟨w.heap.size + 1, 1, none⟩ = some (.int .i64 0) := z 1
      have z2 : wr.cell? ⟨w.heap.size + 1, 2, none⟩ = some (.int .i64 0) := z 2
      have z3 : wr.cell? ⟨w.heap.size + 1, 3, none⟩ = some (.bool false) := z 3
      have f0 : wr.frozen? ⟨w.heap.size + 1, 0, none⟩ = false := zf 0
      have f1 : wr.frozen? ⟨w.heap.size + 1, 1, none⟩ = false := zf 1
      have f2 : wr.frozen? ⟨w.heap.size + 1, 2, none⟩ = false := zf 2
      have f3 : wr.frozen? ⟨w.heap.size + 1, 3, none⟩ = false := zf 3
      have HB2 := Lib.hid HG.out.bel
      clear z zf HG HNO
      go_wp2
      refine ⟨rfl, .tuple #[.agg #[.int .i64 0, .int .i64 0, .int .i64 0, .bool false], .bool false], (by rw [results_cell_tmp rfl]; go_simp), ?_⟩
      show _ ∧ _
      exact ⟨by unfold cov1V; rw [HS.out]; rfl, (((HB2.out.setCell (by show w.heap.size ≤ w.heap.size + 1; omega) _).setCell (by show w.heap.size ≤ w.heap.size + 1; omega) _).setCell (by show w.heap.size ≤ w.heap.size + 1; omega) _).setCell (by show w.heap.size ≤ w.heap.size + 1; omega) _⟩
end Go.Proofs.YtmefjkfjpgblcaaGreatDoor

/- take.Usages and the reference's, walked. -/
namespace Go.Proofs.YtmefjkfjpgblcaaGreatDoor
set_option linter.unusedVariables false
open Go.RowKit Go.Sort

def usgR : Rep Usg := Rep.flat 4 (fun c : Usg => [.string c.1, .int .i64 c.2.1, .int .i64 c.2.2.1, .int .i64 c.2.2.2]) (fun _ => rfl)
def usCs (a : ByteArray) (b c d : Int) : Array Value := #[.string a, .int .i64 b, .int .i64 c, .int .i64 d]
theorem usedTo_next (tl : List Tk) (nm : ByteArray) (k : Nat) (hk : k < tl.length) : usedTo tl nm (k + 1) = usedTo tl nm k + (if tl[k].roll = nm then tl[k].tout - tl[k].tin else 0) := by
  unfold usedTo
  rw [List.take_succ_eq_append_getElem hk, List.filter_append, List.map_append, List.sum_append]
  by_cases h : tl[k].roll = nm <;> simp [h]
theorem goodTo_next (tl : List Tk) (nm : ByteArray) (k : Nat) (hk : k < tl.length) : goodTo tl nm (k + 1) = goodTo tl nm k + (if tl[k].roll = nm ∧ tl[k].good = true then tl[k].tout - tl[k].tin else 0) := by
  unfold goodTo
  rw [List.take_succ_eq_append_getElem hk, List.filter_append, List.map_append, List.sum_append]
  by_cases h : tl[k].roll = nm <;> by_cases h2 : tl[k].good = true <;> simp [h, h2]
def InBd (tl : List Tk) : Prop := ∀ t ∈ tl, 0 ≤ t.tin ∧ t.tin ≤ t.tout ∧ t.tout ≤ 10000000
theorem sum_bd {l : List Int} (h : ∀ x ∈ l, 0 ≤ x ∧ x ≤ 10000000) : 0 ≤ l.sum ∧ l.sum ≤ 10000000 * (l.length : Int) := by
  induction l with
  | nil => simp
  | cons a l ih =>
    have h1 := h a (by simp)
    have h2 := ih (fun x hx => h x (by simp [hx]))
    simp only [List.sum_cons, List.length_cons]
    omega
theorem usedTo_bd (tl : List Tk) (h : InBd tl) (nm : ByteArray) (k : Nat) : 0 ≤ usedTo tl nm k ∧ usedTo tl nm k ≤ 10000000 * (tl.length : Int) := by
  have h1 := sum_bd (l := ((tl.take k).filter fun t => decide (t.roll = nm)).map fun t => t.tout - t.tin) (fun x hx => by
    obtain ⟨t, ht, rfl⟩ := List.mem_map.1 hx
    have := h t (List.mem_of_mem_take (List.mem_filter.1 ht).1)
    omega)
  have h2 : (((tl.take k).filter fun t => decide (t.roll = nm)).map fun t => t.tout - t.tin).length ≤ tl.length := by
    rw [List.length_map]
    refine Nat.le_trans (List.length_filter_le _ _) ?_
    rw [List.length_take]; omega
  unfold usedTo
  omega
theorem goodTo_bd (tl : List Tk) (h : InBd tl) (nm : ByteArray) (k : Nat) : 0 ≤ goodTo tl nm k ∧ goodTo tl nm k ≤ 10000000 * (tl.length : Int) := by
  have h1 := sum_bd (l := ((tl.take k).filter fun t => decide (t.roll = nm) && t.good).map fun t => t.tout - t.tin) (fun x hx => by
    obtain ⟨t, ht, rfl⟩ := List.mem_map.1 hx
    have := h t (List.mem_of_mem_take (List.mem_filter.1 ht).1)
    omega)
  have h2 : (((tl.take k).filter fun t => decide (t.roll = nm) && t.good).map fun t => t.tout - t.tin).length ≤ tl.length := by
    rw [List.length_map]
    refine Nat.le_trans (List.length_filter_le _ _) ?_
    rw [List.length_take]; omega
  unfold goodTo
  omega
theorem tcE_in {sc : List Scene} {rl : List Roll} {pre : List Tk} {t : Tk} (h : tcE sc rl pre t = 0) : rollHas rl t.roll = true ∧ withinB (rollGet rl t.roll) t.tin t.tout = true := by
  unfold tcE at h
  split at h
  · exact absurd h (by decide)
  split at h
  · exact absurd h (by decide)
  split at h
  · exact absurd h (by decide)
  split at h
  · exact absurd h (by decide)
  split at h
  · exact absurd h (by decide)
  rename_i h5
  split at h
  · exact absurd h (by decide)
  rename_i h6
  refine ⟨?_, by simpa using h6⟩
  cases hh : rollHas rl t.roll with
  | true => rfl
  | false => exact absurd (.inl hh) h5
theorem InBd.of {x : Script} {rl : List Roll} {tl : List Tk} (h : tksChk x rl tl = 0) : InBd tl := fun t ht => by
  obtain ⟨_, h2, _, h4⟩ := tksChk_ok h
  obtain ⟨pre, hp⟩ := tcsE_all _ _ _ _ h4 t ht
  obtain ⟨h5, h6⟩ := tcE_in hp
  obtain ⟨_, s1, s2, s3, s4⟩ := rate_bd h2 h5
  unfold withinB at h6
  simp only [Bool.and_eq_true, decide_eq_true_eq] at h6
  omega
def usgE (x : Script) (rl : List Roll) (tl : List Tk) : List Usg := if ¬ tksChk x rl tl = 0 then [] else usgL rl tl
def UsgP (x : Script) (rl : List Roll) (tl : List Tk) (w : World) (e : Ending) (w' : World) : Prop := ∃ v, e = .returned (.tuple #[v, .int .i64 (tksChk x rl tl)]) ∧ Own usgR w' w.heap.size w.heap.size 70 (usgE x rl tl) v ∧ Below w.heap.size w w'
theorem UsgP.bad {x : Script} {rl : List Roll} {tl : List Tk} {q : Int} {w w' : World} (h : tksChk x rl tl = q) (h0 : ¬ q = 0) (hb : Below w.heap.size w w') : UsgP x rl tl w (.returned (.tuple #[.slice none 0 0, .int .i64 q])) w' := by
  subst h
  exact ⟨_, rfl, by unfold usgE; rw [if_pos h0]; exact Own.nil_, hb⟩
theorem UsgP.ok {x : Script} {rl : List Roll} {tl : List Tk} {w w' : World} {v : Value} (h : tksChk x rl tl = 0) (ho : Own usgR w' w.heap.size w.heap.size 70 (usgL rl tl) v) (hb : Below w.heap.size w w') : UsgP x rl tl w (.returned (.tuple #[v, .int .i64 0])) w' := by
  exact ⟨v, by rw [h], by unfold usgE; rw [if_neg (fun k => k h)]; exact ho, hb⟩
set_option maxRecDepth 100000 in
set_option maxHeartbeats 16000000 in
theorem Usages_c {F F2 : Nat → Prop} (t : ByteArray) (ls : List (Scene × Value)) (v : Value) (A1 : Option Addr) (rl : List Roll) (c1 lo : Nat) (tl : List (Tk × Value)) (tv : Value) (w : World) (h : ScL w F t ls v) (hr : Rs w lo w.heap.size 5 Roll.cells A1 rl) (hlen : rl.length ≤ 1000000) (hnm : ∀ r ∈ rl, r.name.size ≤ 140737488355328) (ht : TkW w F2 tl tv) (hm : MaxLaid w) :
    Calls Tryz.prog 33 #[.agg #[.string t, v], .slice A1 rl.length c1, tv] w (UsgP ⟨t, ls.map (·.1)⟩ rl (tl.map (·.1)) w) := by
  obtain ⟨A, c, rfl, hlc, hcm⟩ := h.sli.form
  obtain ⟨A2, c2, rfl, hlc2, hcm2⟩ := ht.sli.form
  obtain ⟨i0, hi0, hz0, hz1, hz2⟩ := info_parts (show (Tryz.prog.info? 70).map (fun i => (i.zero, i.size, i.bytes)) = some (some (.agg #[.string ⟨#[]⟩, .int .i64 0, .int .i64 0, .int .i64 0]), 4, 40) by kernel_rfl)
  obtain ⟨n, hn⟩ : ∃ n, ls.length = n := ⟨_, rfl⟩
  obtain ⟨L, hL⟩ : ∃ L, tl.length = L := ⟨_, rfl⟩
  obtain ⟨R, hR⟩ : ∃ R, rl.length = R := ⟨_, rfl⟩
  have HL := Lib.hid hL
  have HNN := Lib.hid hn
  have HSW := Lib.hid h
  have HT := Lib.hid ht
  have HRS := Lib.hid hr
  have HRL := Lib.hid hR
  have hG0 := (pvStart w).new #[.string t, .slice A ls.length c] 44
  have hCK := fun (W : World) (hW : Below w.heap.size w W) => CheckTakes_c t ls (.slice A ls.length c) A1 rl c1 lo tl (.slice A2 tl.length c2) W (h.below hW) ((hr.below hW (Nat.le_refl _)).more (Nat.le_refl _) hW.size) hlen hnm (ht.below hW) (max_below hm hW (Nat.le_refl _))
  rw [hn] at hlc hG0 hCK
  rw [hR, hL] at hCK
  rw [hL] at hlc2
  rw [hn, hL, hR]
  rw [hn] at HSW
  rw [hL] at HT
  have HCK := Lib.hid hCK
  have HG0 := Lib.hid hG0
  clear h hr hnm ht hm hG0 hCK hn hL hR
  go_enter Tryz.func33, Tryz.ntmps33
  go_upto_region 1 with (fail)
  have hXc := (HG0.out.cell (p := (w.heap.size, #[.string t, .slice A n c], 44)) (by simp)).1
  have x0 : (w.alloc (.cells #[.string t, .slice A n c] 44)).cell? ⟨w.heap.size, 0, none⟩ = some (.string t) := hXc 0
  have x1 : (w.alloc (.cells #[.string t, .slice A n c] 44)).cell? ⟨w.heap.size, 1, none⟩ = some (.slice A n c) := hXc 1
  clear hXc
  generalize w.alloc (.cells #[.string t, .slice A n c] 44) = w1 at *
  go_wp2_with fail
  refine (HCK.out w1 HG0.out.bel).mono ?_
  rintro e w2 ⟨rfl, hb2⟩
  have HG2 := Lib.hid (HG0.out.below hb2)
  clear hb2 HCK HG0 x0 x1
  obtain ⟨ce, hce⟩ : ∃ ce, tksChk ⟨t, ls.map (·.1)⟩ rl (tl.map (·.1)) = ce := ⟨_, rfl⟩
  have HCE := Lib.hid hce
  rw [hce]
  clear hce
  by_cases h0 : ce = 0
  case neg =>
    have hne : (ce != 0) = true := by rw [bne_iff_ne]; exact h0
    have H0 := Lib.hid h0
    clear h0
    go_wp2
    go_ret2
    exact UsgP.bad HCE.out H0.out HG2.out.bel
  subst h0
  have HBD := Lib.hid (InBd.of HCE.out)
  obtain ⟨_, _, hL3, _⟩ := tksChk_ok HCE.out
  rw [List.length_map, HL.out] at hL3
  have HB4 := Lib.hid HG2.out.bel
  have hLm : (tl.map (·.1)).length = L := by rw [List.length_map]; exact HL.out
  rw [HRL.out] at hlen
  clear HG2
  go_wp2
  go_loopw [9, 24] (fun ov iv wr => ∃ k : Nat, k ≤ R ∧ iv = .int .i64 k ∧ Hid (BO usgR 70 w2 ((rl.take k).map (usgOf (tl.map (·.1)))) ov [] wr)) (fun _ iv _ => R - (intOf iv).toNat)
  case atStart => exact ⟨0, Nat.zero_le _, rfl, BO.start w2⟩
  case round =>
    obtain ⟨k, hk, rfl, HG⟩ := hrel
    by_cases hlt : k < R
    · have hkl : k < rl.length := by rw [HRL.out]; exact hlt
      have HBW := Lib.hid (HB4.out.trans (HG.out.bel.mono HB4.out.size))
      obtain ⟨br, ofr, rfl, _, hbl, hc⟩ := ((HRS.out.below HBW.out (Nat.le_refl _)).more (Nat.le_refl _) HBW.out.size).at_ hkl
      have c0 : wr.cell? ⟨br, ofr + k * 5, none⟩ = _ := hc 0 _ rfl
      have c1' := hc 1 _ rfl
      have c2' := hc 2 _ rfl
      have c3 := hc 3 _ rfl
      have c4 := hc 4 _ rfl
      have hnx : (rl.take (k + 1)).map (usgOf (tl.map (·.1))) = (rl.take k).map (usgOf (tl.map (·.1))) ++ [usgOf (tl.map (·.1)) rl[k]] := by rw [List.take_succ_eq_append_getElem hkl, List.map_append]; rfl
      have HNX := Lib.hid hnx
      obtain ⟨qn, hqn⟩ : ∃ qn, ((rl.take k).map (usgOf (tl.map (·.1)))).length = qn := ⟨_, rfl⟩
      have hqk : qn ≤ 1000000 := by rw [← hqn, List.length_map, List.length_take]; omega
      have HQ := Lib.hid hqn
      generalize (rl.take k).map (usgOf (tl.map (·.1))) = cur at *
      generalize (rl[k]'hkl) = r at *
      have hG5 := HG.out.new (rlCs r) 114
      have hnw := heap_alloc_new wr (.cells (rlCs r) 114)
      rw [show rlCs r = #[.string r.name, .int .i64 r.rate, .int .i64 r.start, .int .i64 r.long, .int .i64 r.drift] from rfl] at hnw
      have hRw : wr.heap.size = wr.heap.size := rfl
      have HZR := Lib.hid (show (wr.alloc (.cells #[.string r.name, .int .i64 r.rate, .int .i64 r.start, .int .i64 r.long, .int .i64 r.drift] 114)).heap.size = wr.heap.size + 1 by simp)
      clear hc hnx hqn HBW
      go_upto_region 8 with (fail)
      generalize hW5 : wr.alloc (.cells #[.string r.name, .int .i64 r.rate, .int .i64 r.start, .int .i64 r.long, .int .i64 r.drift] 114) = w5 at *
      have HG5 := Lib.hid (show BO usgR 70 w2 cur u9 [(wr.heap.size, rlCs r, 114)] w5 by rw [← hW5]; exact hG5)
      have y0 : w5.cell? ⟨wr.heap.size, 0, none⟩ = some (.string r.name) := (str_cells hnw).1 0
      have y3 : w5.cell? ⟨wr.heap.size, 3, none⟩ = some (.int .i64 r.long) := (str_cells hnw).1 3
      clear hnw hG5 hW5 HG c0 c1' c2' c3 c4 hRw hbl
      generalize wr.heap.size = Z at *
      have hG6 := HG5.out.new #[.string r.name, .int .i64 r.long, .int .i64 0, .int .i64 0] 70
      go_upto_region 9 with (fail)
      generalize hW6 : w5.alloc (.cells #[.string r.name, .int .i64 r.long, .int .i64 0, .int .i64 0] 70) = w6 at *
      have HG6 := Lib.hid (show BO usgR 70 w2 cur u9 [(w5.heap.size, usCs r.name r.long 0 0, 70), (Z, rlCs r, 114)] w6 from hG6)
      clear hG6 HG5 hW6 y0 y3
      generalize hY : w5.heap.size = Y at *
      have hZY : Z ≠ Y := by have := HZR.out; omega
      clear HZR hY
      go_wp2
      go_loopw [35] (fun iv wr => ∃ (j : Nat), j ≤ L ∧ iv = .int .i64 j ∧ Hid (BO usgR 70 w2 cur u9 [(Y, usCs r.name r.long (usedTo (tl.map (·.1)) r.name j) (goodTo (tl.map (·.1)) r.name j), 70), (Z, rlCs r, 114)] wr)) (fun iv _ => L - (intOf iv).toNat)
      case atStart => exact ⟨0, Nat.zero_le _, rfl, HG6.out⟩
      case round =>
        clear HG6
        obtain ⟨j, hj, rfl, HG⟩ := hrel
        by_cases hjl : j < L
        · have hj2 : j < tl.length := by rw [HL.out]; exact hjl
          obtain ⟨bt, oft, rfl, hft, e0, e1, e2, e3, e4, e5, e6, e7, e8⟩ := tkAt (HT.out.below (HB4.out.trans (HG.out.bel.mono HB4.out.size))).sli j hj2
          obtain ⟨A8, n8, cc8, h8⟩ : ∃ A n c, (tl[j]'hj2).2 = .slice A n c := by
            obtain ⟨A, c, e, _⟩ := (HT.out.cov _ (List.getElem_mem hj2)).form
            exact ⟨A, _, c, e⟩
          rw [h8] at e8
          have hjm : j < (tl.map (·.1)).length := by rw [List.length_map]; exact hj2
          have hun := usedTo_next (tl.map (·.1)) r.name j hjm
          have hgn := goodTo_next (tl.map (·.1)) r.name j hjm
          rw [List.getElem_map] at hun hgn
          obtain ⟨b1, b2, b3⟩ := HBD.out _ (List.mem_map_of_mem (List.getElem_mem hj2))
          have hub := usedTo_bd (tl.map (·.1)) HBD.out r.name j
          have hgb := goodTo_bd (tl.map (·.1)) HBD.out r.name j
          have hbtw : bt < wr.heap.size := World.block_lt_of_cell? _ _ e0
          clear h8
          generalize (tl[j]'hj2).1 = x at *
          generalize usedTo (tl.map (·.1)) r.name j = us at *
          generalize goodTo (tl.map (·.1)) r.name j = gs at *
          have HUN := Lib.hid hun
          have HGN := Lib.hid hgn
          have hG7 := HG.out.alloc (.cells #[.string x.scene, .string x.setup, .int .i64 x.number, .string x.roll, .string x.sound, .int .i64 x.tin, .int .i64 x.tout, .bool x.good, .slice A8 n8 cc8] 122)
          have hnw := heap_alloc_new wr (.cells #[.string x.scene, .string x.setup, .int .i64 x.number, .string x.roll, .string x.sound, .int .i64 x.tin, .int .i64 x.tout, .bool x.good, .slice A8 n8 cc8] 122)
          have hYw : Y < wr.heap.size := HG.out.plt (p := (Y, usCs r.name r.long us gs, 70)) (by simp)
          go_upto_region 12 with (fail)
          generalize wr.alloc (.cells #[.string x.scene, .string x.setup, .int .i64 x.number, .string x.roll, .string x.sound, .int .i64 x.tin, .int .i64 x.tout, .bool x.good, .slice A8 n8 cc8] 122) = w7 at *
          obtain ⟨f, _⟩ := str_cells hnw
          have f3 : w7.cell? ⟨wr.heap.size, 3, none⟩ = some (.string x.roll) := f 3
          have f5 : w7.cell? ⟨wr.heap.size, 5, none⟩ = some (.int .i64 x.tin) := f 5
          have f6 : w7.cell? ⟨wr.heap.size, 6, none⟩ = some (.int .i64 x.tout) := f 6
          have f7 : w7.cell? ⟨wr.heap.size, 7, none⟩ = some (.bool x.good) := f 7
          obtain ⟨z, zf⟩ := hG7.cell (p := (Y, usCs r.name r.long us gs, 70)) (by simp)
          have z2 : w7.cell? ⟨Y, 2, none⟩ = some (.int .i64 us) := z 2
          have z3 : w7.cell? ⟨Y, 3, none⟩ = some (.int .i64 gs) := z 3
          have zf2 : w7.frozen? ⟨Y, 2, none⟩ = false := zf 2
          have zf3 : w7.frozen? ⟨Y, 3, none⟩ = false := zf 3
          have q0 : w7.cell? ⟨Z, 0, none⟩ = some (.string r.name) := (hG7.cell (p := (Z, rlCs r, 114)) (by simp)).1 0
          have hX7 : wr.heap.size < w7.heap.size := World.block_lt_of_cell? _ _ f3
          have hneX : ¬ wr.heap.size = Y := by omega
          have HG7 := Lib.hid hG7
          generalize wr.heap.size = X at *
          clear f z zf hnw hG7 HG e0 e1 e2 e3 e4 e5 e6 e7 e8 hun hgn
          by_cases hrn : x.roll = r.name
          · have er : (x.roll.toList == r.name.toList) = true := by rw [hrn]; exact beq_self_eq_true _
            cases hgd : x.good with
            | false =>
              rw [hgd] at f7
              have HU2 := Lib.hid (HUN.out.trans (by rw [if_pos hrn]))
              have HG2 := Lib.hid (HGN.out.trans (by rw [if_neg (by rw [hgd]; simp)]))
              have HG8 := Lib.hid (show BO usgR 70 w2 cur u9 [(Y, usCs r.name r.long (us + (x.tout - x.tin)) gs, 70), (Z, rlCs r, 114)] (w7.setCell ⟨Y, 2, none⟩ (.int .i64 (us + (x.tout - x.tin)))) from HG7.out.set (i := 2) (fun h => h) (.int .i64 (us + (x.tout - x.tin))) (by simp only [List.mem_cons, List.not_mem_nil, or_false, forall_eq]; exact hZY))
              clear hgd HUN HGN HG7 hrn
              go_wp2
              go_roundw
              case rel => exact ⟨j + 1, by omega, intNum, by rw [HU2.out, HG2.out, Int.add_zero]; exact HG8⟩
              case measure => simp [intOf]; omega
            | true =>
              rw [hgd] at f7
              have HU2 := Lib.hid (HUN.out.trans (by rw [if_pos hrn]))
              have HG2 := Lib.hid (HGN.out.trans (by rw [if_pos ⟨hrn, hgd⟩]))
              have HG8 := Lib.hid (show BO usgR 70 w2 cur u9 [(Y, usCs r.name r.long (us + (x.tout - x.tin)) gs, 70), (Z, rlCs r, 114)] (w7.setCell ⟨Y, 2, none⟩ (.int .i64 (us + (x.tout - x.tin)))) from HG7.out.set (i := 2) (fun h => h) (.int .i64 (us + (x.tout - x.tin))) (by simp only [List.mem_cons, List.not_mem_nil, or_false, forall_eq]; exact hZY))
              have HG9 := Lib.hid (show BO usgR 70 w2 cur u9 [(Y, usCs r.name r.long (us + (x.tout - x.tin)) (gs + (x.tout - x.tin)), 70), (Z, rlCs r, 114)] ((w7.setCell ⟨Y, 2, none⟩ (.int .i64 (us + (x.tout - x.tin)))).setCell ⟨Y, 3, none⟩ (.int .i64 (gs + (x.tout - x.tin)))) from HG8.out.set (i := 3) (fun h => h) (.int .i64 (gs + (x.tout - x.tin))) (by simp only [List.mem_cons, List.not_mem_nil, or_false, forall_eq]; exact hZY))
              clear hgd HUN HGN HG7 HG8 hrn
              go_wp2
              go_roundw
              case rel => exact ⟨j + 1, by omega, intNum, by rw [HU2.out, HG2.out]; exact HG9⟩
              case measure => simp [intOf]; omega
          · have er : (x.roll.toList == r.name.toList) = false := by rw [beqS]; exact decide_eq_false hrn
            have HU2 := Lib.hid (HUN.out.trans (by rw [if_neg hrn]))
            have HG2 := Lib.hid (HGN.out.trans (by rw [if_neg (fun h => hrn h.1)]))
            clear HUN HGN hrn
            go_wp2
            go_roundw
            case rel => exact ⟨j + 1, by omega, intNum, by rw [HU2.out, HG2.out, Int.add_zero, Int.add_zero]; exact HG7⟩
            case measure => simp [intOf]; omega
        · have hjL : j = L := by omega
          have HUE := Lib.hid (show usgOf (tl.map (·.1)) r = (r.name, r.long, usedTo (tl.map (·.1)) r.name j, goodTo (tl.map (·.1)) r.name j) by unfold usgOf; rw [List.length_map, HL.out, hjL])
          clear hjL
          generalize usedTo (tl.map (·.1)) r.name j = us at *
          generalize goodTo (tl.map (·.1)) r.name j = gs at *
          obtain ⟨z, zf⟩ := HG.out.cell (p := (Y, usCs r.name r.long us gs, 70)) (by simp)
          have z0 : wr.cell? ⟨Y, 0, none⟩ = some (.string r.name) := z 0
          have z1 : wr.cell? ⟨Y, 1, none⟩ = some (.int .i64 r.long) := z 1
          have z2 : wr.cell? ⟨Y, 2, none⟩ = some (.int .i64 us) := z 2
          have z3 : wr.cell? ⟨Y, 3, none⟩ = some (.int .i64 gs) := z 3
          have HG1 := Lib.hid (HG.out.less (Q := []) (by simp))
          clear z zf HG hj
          go_wp2_with (at_builtin; (refine wpList_pushB (R := usgR) rfl _ _ _ rfl w2.heap.size w2.heap.size 70 i0 _ 40 Tryz.underlying61 hi0 hz0 hz1 hz2 rfl (by decide) _ u9 cur rfl (HG1.out.own.alloc _) (r.name, r.long, us, gs) _ rfl (oneC rfl) wr.heap.size _ _ (heap_alloc_new wr _) rfl (by rw [HQ.out]; simp [maxLen]; omega) (by rw [HQ.out]; omega) (by have := HG1.out.size; simp; omega) ?_); intro g7 cap7 w9 hown9 hg9 hat9 hlt9)
          go_roundw
          case rel => exact ⟨k + 1, by omega, intNum, by rw [HNX.out, HUE.out]; exact Lib.hid ((HG1.out.alloc (.cells #[.string r.name, .int .i64 r.long, .int .i64 us, .int .i64 gs] 70)).more hown9 hg9 rfl hat9)⟩
          case measure => simp [intOf]; omega
    · have hkm : k = R := by omega
      have HE := Lib.hid (show (rl.take k).map (usgOf (tl.map (·.1))) = usgL rl (tl.map (·.1)) by unfold usgL; rw [List.take_of_length_le (by rw [HRL.out, hkm]; exact Nat.le_refl _)])
      have hz5 := HB4.out.size
      clear hkm hk
      go_wp2
      go_ret2
      exact UsgP.ok HCE.out (by rw [← HE.out]; exact HG.out.own.less hz5) (HB4.out.trans (HG.out.bel.mono hz5))
set_option maxRecDepth 100000 in
set_option maxHeartbeats 16000000 in
theorem UsagesOf_c {F2 : Nat → Prop} (A1 : Option Addr) (rl : List Roll) (c1 lo : Nat) (tl : List (Tk × Value)) (tv : Value) (w : World) (hr : Rs w lo w.heap.size 5 Roll.cells A1 rl) (hlen : rl.length ≤ 1000000) (ht : TkW w F2 tl tv) (hbd : InBd (tl.map (·.1))) (hL3 : tl.length ≤ 3000) :
    Calls Tryz.prog 37 #[.slice A1 rl.length c1, tv] w fun e w' => ∃ v, e = .returned v ∧ Own usgR w' w.heap.size w.heap.size 70 (usgL rl (tl.map (·.1))) v ∧ Below w.heap.size w w' := by
  obtain ⟨A2, c2, rfl, hlc2, hcm2⟩ := ht.sli.form
  obtain ⟨i0, hi0, hz0, hz1, hz2⟩ := info_parts (show (Tryz.prog.info? 70).map (fun i => (i.zero, i.size, i.bytes)) = some (some (.agg #[.string ⟨#[]⟩, .int .i64 0, .int .i64 0, .int .i64 0]), 4, 40) by kernel_rfl)
  obtain ⟨L, hL⟩ : ∃ L, tl.length = L := ⟨_, rfl⟩
  obtain ⟨R, hR⟩ : ∃ R, rl.length = R := ⟨_, rfl⟩
  have HL := Lib.hid hL
  have HRL := Lib.hid hR
  have HT := Lib.hid ht
  have HRS := Lib.hid hr
  have HBD := Lib.hid hbd
  have hLm : (tl.map (·.1)).length = L := by rw [List.length_map]; exact hL
  rw [hL] at HT hlc2 hL3
  rw [hR] at hlen
  rw [hL, hR]
  have HB4 := Lib.hid (Below.refl w.heap.size w)
  clear hr ht hbd hL hR
  go_enter Tryz.func37, Tryz.ntmps37
  go_wp2
  go_loopw [5, 13] (fun ov iv wr => ∃ k : Nat, k ≤ R ∧ iv = .int .i64 k ∧ Hid (BO usgR 70 w ((rl.take k).map (usgOf (tl.map (·.1)))) ov [] wr)) (fun _ iv _ => R - (intOf iv).toNat)
  case atStart => exact ⟨0, Nat.zero_le _, rfl, BO.start w⟩
  case round =>
    obtain ⟨k, hk, rfl, HG⟩ := hrel
    by_cases hlt : k < R
    · have hkl : k < rl.length := by rw [HRL.out]; exact hlt
      have HBW := Lib.hid (HB4.out.trans (HG.out.bel.mono HB4.out.size))
      obtain ⟨br, ofr, rfl, _, hbl, hc⟩ := ((HRS.out.below HBW.out (Nat.le_refl _)).more (Nat.le_refl _) HBW.out.size).at_ hkl
      have c0 : wr.cell? ⟨br, ofr + k * 5, none⟩ = _ := hc 0 _ rfl
      have c1' := hc 1 _ rfl
      have c2' := hc 2 _ rfl
      have c3 := hc 3 _ rfl
      have c4 := hc 4 _ rfl
      have hnx : (rl.take (k + 1)).map (usgOf (tl.map (·.1))) = (rl.take k).map (usgOf (tl.map (·.1))) ++ [usgOf (tl.map (·.1)) rl[k]] := by rw [List.take_succ_eq_append_getElem hkl, List.map_append]; rfl
      have HNX := Lib.hid hnx
      obtain ⟨qn, hqn⟩ : ∃ qn, ((rl.take k).map (usgOf (tl.map (·.1)))).length = qn := ⟨_, rfl⟩
      have hqk : qn ≤ 1000000 := by rw [← hqn, List.length_map, List.length_take]; omega
      have HQ := Lib.hid hqn
      generalize (rl.take k).map (usgOf (tl.map (·.1))) = cur at *
      generalize (rl[k]'hkl) = r at *
      have hG5 := HG.out.new (rlCs r) 114
      have hnw := heap_alloc_new wr (.cells (rlCs r) 114)
      rw [show rlCs r = #[.string r.name, .int .i64 r.rate, .int .i64 r.start, .int .i64 r.long, .int .i64 r.drift] from rfl] at hnw
      have hRw : wr.heap.size = wr.heap.size := rfl
      have HZR := Lib.hid (show (wr.alloc (.cells #[.string r.name, .int .i64 r.rate, .int .i64 r.start, .int .i64 r.long, .int .i64 r.drift] 114)).heap.size = wr.heap.size + 1 by simp)
      clear hc hnx hqn HBW
      go_upto_region 5 with (fail)
      generalize hW5 : wr.alloc (.cells #[.string r.name, .int .i64 r.rate, .int .i64 r.start, .int .i64 r.long, .int .i64 r.drift] 114) = w5 at *
      have HG5 := Lib.hid (show BO usgR 70 w cur u5 [(wr.heap.size, rlCs r, 114)] w5 by rw [← hW5]; exact hG5)
      have y0 : w5.cell? ⟨wr.heap.size, 0, none⟩ = some (.string r.name) := (str_cells hnw).1 0
      have y3 : w5.cell? ⟨wr.heap.size, 3, none⟩ = some (.int .i64 r.long) := (str_cells hnw).1 3
      clear hnw hG5 hW5 HG c0 c1' c2' c3 c4 hRw hbl
      generalize wr.heap.size = Z at *
      have hG6 := HG5.out.new #[.string r.name, .int .i64 r.long, .int .i64 0, .int .i64 0] 70
      go_upto_region 6 with (fail)
      generalize hW6 : w5.alloc (.cells #[.string r.name, .int .i64 r.long, .int .i64 0, .int .i64 0] 70) = w6 at *
      have HG6 := Lib.hid (show BO usgR 70 w cur u5 [(w5.heap.size, usCs r.name r.long 0 0, 70), (Z, rlCs r, 114)] w6 from hG6)
      clear hG6 HG5 hW6 y0 y3
      generalize hY : w5.heap.size = Y at *
      have hZY : Z ≠ Y := by have := HZR.out; omega
      clear HZR hY
      go_wp2
      go_loopw [24] (fun iv wr => ∃ (j : Nat), j ≤ L ∧ iv = .int .i64 j ∧ Hid (BO usgR 70 w cur u5 [(Y, usCs r.name r.long (usedTo (tl.map (·.1)) r.name j) (goodTo (tl.map (·.1)) r.name j), 70), (Z, rlCs r, 114)] wr)) (fun iv _ => L - (intOf iv).toNat)
      case atStart => exact ⟨0, Nat.zero_le _, rfl, HG6.out⟩
      case round =>
        clear HG6
        obtain ⟨j, hj, rfl, HG⟩ := hrel
        by_cases hjl : j < L
        · have hj2 : j < tl.length := by rw [HL.out]; exact hjl
          obtain ⟨bt, oft, rfl, hft, e0, e1, e2, e3, e4, e5, e6, e7, e8⟩ := tkAt (HT.out.below (HB4.out.trans (HG.out.bel.mono HB4.out.size))).sli j hj2
          obtain ⟨A8, n8, cc8, h8⟩ : ∃ A n c, (tl[j]'hj2).2 = .slice A n c := by
            obtain ⟨A, c, e, _⟩ := (HT.out.cov _ (List.getElem_mem hj2)).form
            exact ⟨A, _, c, e⟩
          rw [h8] at e8
          have hjm : j < (tl.map (·.1)).length := by rw [List.length_map]; exact hj2
          have hun := usedTo_next (tl.map (·.1)) r.name j hjm
          have hgn := goodTo_next (tl.map (·.1)) r.name j hjm
          rw [List.getElem_map] at hun hgn
          obtain ⟨b1, b2, b3⟩ := HBD.out _ (List.mem_map_of_mem (List.getElem_mem hj2))
          have hub := usedTo_bd (tl.map (·.1)) HBD.out r.name j
          have hgb := goodTo_bd (tl.map (·.1)) HBD.out r.name j
          have hbtw : bt < wr.heap.size := World.block_lt_of_cell? _ _ e0
          clear h8
          generalize (tl[j]'hj2).1 = x at *
          generalize usedTo (tl.map (·.1)) r.name j = us at *
          generalize goodTo (tl.map (·.1)) r.name j = gs at *
          have HUN := Lib.hid hun
          have HGN := Lib.hid hgn
          have hG7 := HG.out.alloc (.cells #[.string x.scene, .string x.setup, .int .i64 x.number, .string x.roll, .string x.sound, .int .i64 x.tin, .int .i64 x.tout, .bool x.good, .slice A8 n8 cc8] 122)
          have hnw := heap_alloc_new wr (.cells #[.string x.scene, .string x.setup, .int .i64 x.number, .string x.roll, .string x.sound, .int .i64 x.tin, .int .i64 x.tout, .bool x.good, .slice A8 n8 cc8] 122)
          have hYw : Y < wr.heap.size := HG.out.plt (p := (Y, usCs r.name r.long us gs, 70)) (by simp)
          go_upto_region 9 with (fail)
          generalize wr.alloc (.cells #[.string x.scene, .string x.setup, .int .i64 x.number, .string x.roll, .string x.sound, .int .i64 x.tin, .int .i64 x.tout, .bool x.good, .slice A8 n8 cc8] 122) = w7 at *
          obtain ⟨f, _⟩ := str_cells hnw
          have f3 : w7.cell? ⟨wr.heap.size, 3, none⟩ = some (.string x.roll) := f 3
          have f5 : w7.cell? ⟨wr.heap.size, 5, none⟩ = some (.int .i64 x.tin) := f 5
          have f6 : w7.cell? ⟨wr.heap.size, 6, none⟩ = some (.int .i64 x.tout) := f 6
          have f7 : w7.cell? ⟨wr.heap.size, 7, none⟩ = some (.bool x.good) := f 7
          obtain ⟨z, zf⟩ := hG7.cell (p := (Y, usCs r.name r.long us gs, 70)) (by simp)
          have z2 : w7.cell? ⟨Y, 2, none⟩ = some (.int .i64 us) := z 2
          have z3 : w7.cell? ⟨Y, 3, none⟩ = some (.int .i64 gs) := z 3
          have zf2 : w7.frozen? ⟨Y, 2, none⟩ = false := zf 2
          have zf3 : w7.frozen? ⟨Y, 3, none⟩ = false := zf 3
          have q0 : w7.cell? ⟨Z, 0, none⟩ = some (.string r.name) := (hG7.cell (p := (Z, rlCs r, 114)) (by simp)).1 0
          have hX7 : wr.heap.size < w7.heap.size := World.block_lt_of_cell? _ _ f3
          have hneX : ¬ wr.heap.size = Y := by omega
          have HG7 := Lib.hid hG7
          generalize wr.heap.size = X at *
          clear f z zf hnw hG7 HG e0 e1 e2 e3 e4 e5 e6 e7 e8 hun hgn
          by_cases hrn : x.roll = r.name
          · have er : (x.roll.toList == r.name.toList) = true := by rw [hrn]; exact beq_self_eq_true _
            cases hgd : x.good with
            | false =>
              rw [hgd] at f7
              have HU2 := Lib.hid (HUN.out.trans (by rw [if_pos hrn]))
              have HG2 := Lib.hid (HGN.out.trans (by rw [if_neg (by rw [hgd]; simp)]))
              have HG8 := Lib.hid (show BO usgR 70 w cur u5 [(Y, usCs r.name r.long (us + (x.tout - x.tin)) gs, 70), (Z, rlCs r, 114)] (w7.setCell ⟨Y, 2, none⟩ (.int .i64 (us + (x.tout - x.tin)))) from HG7.out.set (i := 2) (fun h => h) (.int .i64 (us + (x.tout - x.tin))) (by simp only [List.mem_cons, List.not_mem_nil, or_false, forall_eq]; exact hZY))
              clear hgd HUN HGN HG7 hrn
              go_wp2
              go_roundw
              case rel => exact ⟨j + 1, by omega, intNum, by rw [HU2.out, HG2.out, Int.add_zero]; exact HG8⟩
              case measure => simp [intOf]; omega
            | true =>
              rw [hgd] at f7
              have HU2 := Lib.hid (HUN.out.trans (by rw [if_pos hrn]))
              have HG2 := Lib.hid (HGN.out.trans (by rw [if_pos ⟨hrn, hgd⟩]))
              have HG8 := Lib.hid (show BO usgR 70 w cur u5 [(Y, usCs r.name r.long (us + (x.tout - x.tin)) gs, 70), (Z, rlCs r, 114)] (w7.setCell ⟨Y, 2, none⟩ (.int .i64 (us + (x.tout - x.tin)))) from HG7.out.set (i := 2) (fun h => h) (.int .i64 (us + (x.tout - x.tin))) (by simp only [List.mem_cons, List.not_mem_nil, or_false, forall_eq]; exact hZY))
              have HG9 := Lib.hid (show BO usgR 70 w cur u5 [(Y, usCs r.name r.long (us + (x.tout - x.tin)) (gs + (x.tout - x.tin)), 70), (Z, rlCs r, 114)] ((w7.setCell ⟨Y, 2, none⟩ (.int .i64 (us + (x.tout - x.tin)))).setCell ⟨Y, 3, none⟩ (.int .i64 (gs + (x.tout - x.tin)))) from HG8.out.set (i := 3) (fun h => h) (.int .i64 (gs + (x.tout - x.tin))) (by simp only [List.mem_cons, List.not_mem_nil, or_false, forall_eq]; exact hZY))
              clear hgd HUN HGN HG7 HG8 hrn
              go_wp2
              go_roundw
              case rel => exact ⟨j + 1, by omega, intNum, by rw [HU2.out, HG2.out]; exact HG9⟩
              case measure => simp [intOf]; omega
          · have er : (x.roll.toList == r.name.toList) = false := by rw [beqS]; exact decide_eq_false hrn
            have HU2 := Lib.hid (HUN.out.trans (by rw [if_neg hrn]))
            have HG2 := Lib.hid (HGN.out.trans (by rw [if_neg (fun h => hrn h.1)]))
            clear HUN HGN hrn
            go_wp2
            go_roundw
            case rel => exact ⟨j + 1, by omega, intNum, by rw [HU2.out, HG2.out, Int.add_zero, Int.add_zero]; exact HG7⟩
            case measure => simp [intOf]; omega
        · have hjL : j = L := by omega
          have HUE := Lib.hid (show usgOf (tl.map (·.1)) r = (r.name, r.long, usedTo (tl.map (·.1)) r.name j, goodTo (tl.map (·.1)) r.name j) by unfold usgOf; rw [List.length_map, HL.out, hjL])
          clear hjL
          generalize usedTo (tl.map (·.1)) r.name j = us at *
          generalize goodTo (tl.map (·.1)) r.name j = gs at *
          obtain ⟨z, zf⟩ := HG.out.cell (p := (Y, usCs r.name r.long us gs, 70)) (by simp)
          have z0 : wr.cell? ⟨Y, 0, none⟩ = some (.string r.name) := z 0
          have z1 : wr.cell? ⟨Y, 1, none⟩ = some (.int .i64 r.long) := z 1
          have z2 : wr.cell? ⟨Y, 2, none⟩ = some (.int .i64 us) := z 2
          have z3 : wr.cell? ⟨Y, 3, none⟩ = some (.int .i64 gs) := z 3
          have HG1 := Lib.hid (HG.out.less (Q := []) (by simp))
          clear z zf HG hj
          go_wp2_with (at_builtin; (refine wpList_pushB (R := usgR) rfl _ _ _ rfl w.heap.size w.heap.size 70 i0 _ 40 Tryz.underlying61 hi0 hz0 hz1 hz2 rfl (by decide) _ u5 cur rfl (HG1.out.own.alloc _) (r.name, r.long, us, gs) _ rfl (oneC rfl) wr.heap.size _ _ (heap_alloc_new wr _) rfl (by rw [HQ.out]; simp [maxLen]; omega) (by rw [HQ.out]; omega) (by have := HG1.out.size; simp; omega) ?_); intro g7 cap7 w9 hown9 hg9 hat9 hlt9)
          go_roundw
          case rel => exact ⟨k + 1, by omega, intNum, by rw [HNX.out, HUE.out]; exact Lib.hid ((HG1.out.alloc (.cells #[.string r.name, .int .i64 r.long, .int .i64 us, .int .i64 gs] 70)).more hown9 hg9 rfl hat9)⟩
          case measure => simp [intOf]; omega
    · have hkm : k = R := by omega
      have HE := Lib.hid (show (rl.take k).map (usgOf (tl.map (·.1))) = usgL rl (tl.map (·.1)) by unfold usgL; rw [List.take_of_length_le (by rw [HRL.out, hkm]; exact Nat.le_refl _)])
      have hz5 := HB4.out.size
      clear hkm hk
      go_wp2
      go_ret
      exact ⟨_, rfl, by rw [← HE.out]; exact HG.out.own, HG.out.bel⟩
end Go.Proofs.YtmefjkfjpgblcaaGreatDoor

/- The reference's coverage of a scene, walked. -/
namespace Go.Proofs.YtmefjkfjpgblcaaGreatDoor
set_option linter.unusedVariables false
open Go.RowKit Go.Sort

theorem refTk_bd (tl : List Tk) (sc : List Scene) (i : Nat) (q : Int) (k : Nat) : 0 ≤ (refTk tl sc i q k).2.1 ∧ (refTk tl sc i q k).2.1 ≤ k ∧ 0 ≤ (refTk tl sc i q k).2.2.1 ∧ (refTk tl sc i q k).2.2.1 ≤ k ∧ 0 ≤ (refTk tl sc i q k).2.2.2 ∧ (refTk tl sc i q k).2.2.2 ≤ k := by
  have h : ∀ p : Tk → Bool, ((tl.take k).filter p).length ≤ k := fun p => Nat.le_trans (List.length_filter_le _ _) (by rw [List.length_take]; omega)
  have h1 := h (refC sc i q)
  have h2 := h (fun t => refC sc i q t && t.good)
  have h3 := h (fun t => refC sc i q t && (t.good && ((cov1 t q).map (·.on)).getD false))
  unfold refTk
  dsimp only
  omega
def ConP (sc : List Scene) (tl : List Tk) (i : Nat) (w : World) (e : Ending) (w' : World) : Prop := ∃ v, e = .returned v ∧ Own cvdR w' w.heap.size w.heap.size 75 (coverL sc tl i) v ∧ Below w.heap.size w w'
set_option maxRecDepth 100000 in
set_option maxHeartbeats 16000000 in
theorem CoverageOf_c {F F2 : Nat → Prop} (t : ByteArray) (ls : List (Scene × Value)) (v : Value) (tl : List (Tk × Value)) (tv : Value) (i : Nat) (w : World) (h : ScL w F t ls v) (ht : TkW w F2 tl tv) (hok : CvOk (ls.map (·.1)) (tl.map (·.1))) (hi : i < ls.length) (hL3 : tl.length ≤ 3000) :
    Calls Tryz.prog 40 #[.agg #[.string t, v], tv, .int .i64 (i : Int)] w (ConP (ls.map (·.1)) (tl.map (·.1)) i w) := by
  obtain ⟨A, c, rfl, hlc, hcm⟩ := h.sli.form
  obtain ⟨A2, c2, rfl, hlc2, hcm2⟩ := ht.sli.form
  obtain ⟨i0, hi0, hz0, hz1, hz2⟩ := info_parts (show (Tryz.prog.info? 75).map (fun i => (i.zero, i.size, i.bytes)) = some (some (.agg #[.int .i64 0, .int .i64 0, .int .i64 0, .int .i64 0]), 4, 32) by kernel_rfl)
  obtain ⟨n, hn⟩ : ∃ n, ls.length = n := ⟨_, rfl⟩
  obtain ⟨L, hL⟩ : ∃ L, tl.length = L := ⟨_, rfl⟩
  have HL := Lib.hid hL
  have HNN := Lib.hid hn
  have HSW := Lib.hid h
  have HT := Lib.hid ht
  have HOK := Lib.hid hok
  have hG0 := (pvStart w).new #[.string t, .slice A ls.length c] 44
  have hiN : i < n := by omega
  have hi0' : (0 : Int) ≤ i := by omega
  have hik : (i : Int) < n := by omega
  obtain ⟨bs, of2, hAs, hfbs, _, _, _, _, _⟩ := scAt h.sli i hi
  obtain ⟨A4, c4, h4, hlc4, _⟩ := (h.par _ (List.getElem_mem hi)).form
  have HPA := Lib.hid (h.par _ (List.getElem_mem hi))
  have hnd : (((ls.map (·.1))[i]?).map (·.paras)).getD [] = (ls[i]'hi).1.paras := by simp [List.getElem?_eq_getElem hi]
  have hno : (((ls.map (·.1))[i]?).map (·.no)).getD ⟨#[]⟩ = (ls[i]'hi).1.no := by simp [List.getElem?_eq_getElem hi]
  have HCO := Lib.hid (show coverL (ls.map (·.1)) (tl.map (·.1)) i = (needL (ls[i]'hi).1.paras).map (cvdOf (ls.map (·.1)) (tl.map (·.1)) i) by unfold coverL; rw [hnd])
  have HRC := Lib.hid (fun (q : Int) (t : Tk) => show refC (ls.map (·.1)) i q t = ((cov1 t q).isSome && decide (t.scene = (ls[i]'hi).1.no)) by unfold refC; rw [hno])
  have hpl := (h.bd _ (List.getElem_mem hi)).2.2.1
  have HSA := Lib.hid (fun (W : World) (hW : Below w.heap.size w W) => (scAt (h.below hW).sli i hi))
  rw [h4] at HPA HSA
  rw [hn] at hlc hG0
  rw [hn] at HSW
  rw [hL] at HT hlc2 hL3
  rw [hn, hL]
  subst hAs
  have HG0 := Lib.hid hG0
  have HRA := Lib.hid (fun q => refTk_all hok (i := i) (by rw [List.length_map]; exact hi) q)
  have hbs := h.lt bs hfbs
  generalize (ls[i]'hi).1 = s at *
  obtain ⟨np, hnp⟩ : ∃ np, s.paras.length = np := ⟨_, rfl⟩
  rw [hnp] at HPA hlc4 hpl HSA
  have HND := Lib.hid (fun (W : World) (hW : Below w.heap.size w W) => needed_c (F := F) s A4 np c4 W (HPA.out.below hW HSW.out.lt) (fun b hb => Nat.lt_of_lt_of_le (HSW.out.lt b hb) hW.size) hnp hpl)
  clear h ht hok hG0 hn hL hnd hno h4
  go_enter Tryz.func40, Tryz.ntmps40
  go_upto_region 2 with (fail)
  have hXc := (HG0.out.cell (p := (w.heap.size, #[.string t, .slice (some ⟨bs, of2, none⟩) n c], 44)) (by simp)).1
  have x1 : (w.alloc (.cells #[.string t, .slice (some ⟨bs, of2, none⟩) n c] 44)).cell? ⟨w.heap.size, 1, none⟩ = some (.slice (some ⟨bs, of2, none⟩) n c) := hXc 1
  clear hXc
  generalize w.alloc (.cells #[.string t, .slice (some ⟨bs, of2, none⟩) n c] 44) = w1 at *
  obtain ⟨bs', of2', hAs, _, s0, s1, s2, s3, s4⟩ := HSA.out w1 HG0.out.bel
  injection hAs with hAs
  injection hAs with hA1 hA2
  subst hA1
  subst hA2
  have hbs4 : bs < w1.heap.size := World.block_lt_of_cell? _ _ s0
  go_wp2_with fail
  refine (HND.out w1 HG0.out.bel).mono ?_
  rintro e w5 ⟨nv, rfl, hown5, hb5⟩
  have HG5 := Lib.hid (HG0.out.below hb5)
  have HI5 := Lib.hid (hown5.sliF (F := fun q => q < w5.heap.size) (fun q hq => (hown5.block q hq).2))
  clear HND hown5 hb5 HG0 x1 s0 s1 s2 s3 s4
  obtain ⟨A5, c5, rfl, hlc5, hcm5⟩ := HI5.out.form
  obtain ⟨m, hm⟩ : ∃ m, (needL s.paras).length = m := ⟨_, rfl⟩
  have HMM := Lib.hid hm
  rw [hm] at HI5 hlc5 ⊢
  have hmb : m ≤ 1000000 := by
    rw [← hm]
    unfold needL
    exact Nat.le_trans (needTo_len _ _) (by rw [hnp]; exact hpl)
  have HX5 := Lib.hid (fun (W : World) (hW : Below w5.heap.size w5 W) => show Below w.heap.size w W ∧ W.cell? ⟨w.heap.size, 1, none⟩ = some (.slice (some ⟨bs, of2, none⟩) n c) ∧ W.cell? ⟨bs, of2 + i * 5, none⟩ = some (.string s.no) ∧ w.heap.size < W.heap.size from by
    have hB := HG5.out.bel.trans (hW.mono HG5.out.size)
    obtain ⟨bs', of2', hAs, _, s0, _, _, _, _⟩ := HSA.out W hB
    injection hAs with hAs
    injection hAs with hA1 hA2
    subst hA1
    subst hA2
    exact ⟨hB, ((HG5.out.below hW).cell (p := (w.heap.size, #[.string t, .slice (some ⟨bs, of2, none⟩) n c], 44)) (by simp)).1 1, s0, (HG5.out.below hW).plt (p := (w.heap.size, #[.string t, .slice (some ⟨bs, of2, none⟩) n c], 44)) (by simp)⟩)
  have HB5 := Lib.hid HG5.out.bel
  clear hm HG5 HSA
  go_wp2
  go_loopw [7, 22] (fun ov iv wr => ∃ k : Nat, k ≤ m ∧ iv = .int .i64 k ∧ Hid (BO cvdR 75 w5 (((needL s.paras).take k).map (cvdOf (ls.map (·.1)) (tl.map (·.1)) i)) ov [] wr)) (fun _ iv _ => m - (intOf iv).toNat)
  case atStart => exact ⟨0, Nat.zero_le _, rfl, BO.start w5⟩
  case round =>
    obtain ⟨k, hk, rfl, HG⟩ := hrel
    by_cases hlt : k < m
    · have hk2 : k < (needL s.paras).length := by rw [HMM.out]; exact hlt
      obtain ⟨bi, oi, rfl, hfi, d0⟩ := intAt (HI5.out.below HG.out.bel (fun _ h => h)) k hk2
      have HNX := Lib.hid (cov_next (ls.map (·.1)) (tl.map (·.1)) i (needL s.paras) k hk2)
      obtain ⟨qn, hqn⟩ : ∃ qn, (((needL s.paras).take k).map (cvdOf (ls.map (·.1)) (tl.map (·.1)) i)).length = qn := ⟨_, rfl⟩
      have hqk : qn ≤ 1000000 := by rw [← hqn, List.length_map, List.length_take]; omega
      have HQ := Lib.hid hqn
      generalize ((needL s.paras).take k).map (cvdOf (ls.map (·.1)) (tl.map (·.1)) i) = cur at *
      generalize ((needL s.paras)[k]'hk2) = q at *
      have hG6 := HG.out.new (cdCs q 0 0 0) 75
      clear hqn
      go_upto_region 6 with (fail)
      generalize hW6 : wr.alloc (.cells #[.int .i64 q, .int .i64 0, .int .i64 0, .int .i64 0] 75) = w6
      have HG6 := Lib.hid (show BO cvdR 75 w5 cur u7 [(wr.heap.size, cdCs q (refTk (tl.map (·.1)) (ls.map (·.1)) i q 0).2.1 (refTk (tl.map (·.1)) (ls.map (·.1)) i q 0).2.2.1 (refTk (tl.map (·.1)) (ls.map (·.1)) i q 0).2.2.2, 75)] w6 by rw [← hW6]; exact hG6)
      have HEQ := Lib.hid (HRA.out q)
      have HRQ := Lib.hid (fun t => HRC.out q t)
      clear hG6 hW6 HG d0
      generalize wr.heap.size = Y at *
      go_wp2
      go_loopw [30] (fun iv wr => ∃ (j : Nat), j ≤ L ∧ iv = .int .i64 j ∧ Hid (BO cvdR 75 w5 cur u7 [(Y, cdCs q (refTk (tl.map (·.1)) (ls.map (·.1)) i q j).2.1 (refTk (tl.map (·.1)) (ls.map (·.1)) i q j).2.2.1 (refTk (tl.map (·.1)) (ls.map (·.1)) i q j).2.2.2, 75)] wr)) (fun iv _ => L - (intOf iv).toNat)
      case atStart => exact ⟨0, Nat.zero_le _, rfl, HG6.out⟩
      case round =>
        clear HG6
        obtain ⟨j, hj, rfl, HG⟩ := hrel
        by_cases hjl : j < L
        · have hj2 : j < tl.length := by rw [HL.out]; exact hjl
          have HBW := Lib.hid (HX5.out wr HG.out.bel).1
          obtain ⟨bt, oft, rfl, hft, e0, e1, e2, e3, e4, e5, e6, e7, e8⟩ := tkAt (HT.out.below HBW.out).sli j hj2
          have hcv := HT.out.cov _ (List.getElem_mem hj2)
          obtain ⟨A8, cc8, h8, _, _⟩ := hcv.form
          rw [h8] at e8 hcv
          have hjm : j < (tl.map (·.1)).length := by rw [List.length_map]; exact hj2
          have hnx := refTk_next (tl.map (·.1)) (ls.map (·.1)) i q j hjm
          rw [List.getElem_map, HRQ.out] at hnx
          obtain ⟨b1, b2, b3, b4, b5, b6⟩ := refTk_bd (tl.map (·.1)) (ls.map (·.1)) i q j
          have hcn := (HT.out.bd _ (List.getElem_mem hj2)).2.2.2.2
          have hbtw : bt < wr.heap.size := World.block_lt_of_cell? _ _ e0
          clear h8
          generalize (tl[j]'hj2).1 = x at *
          obtain ⟨cnn, hcnn⟩ : ∃ cnn, x.covers.length = cnn := ⟨_, rfl⟩
          rw [hcnn] at e8 hcv hcn
          obtain ⟨ra, rb, rc', hrr⟩ : ∃ a b c, refTk (tl.map (·.1)) (ls.map (·.1)) i q j = (q, a, b, c) := ⟨_, _, _, rfl⟩
          rw [hrr] at hnx b1 b2 b3 b4 b5 b6 HG
          dsimp only at hnx b1 b2 b3 b4 b5 b6
          have HNR := Lib.hid hnx
          have HCV := Lib.hid hcv
          have HG7 := Lib.hid (HG.out.new (tkCs x (.slice A8 cnn cc8)) 122)
          have hYX : Y < wr.heap.size := HG.out.plt (p := (Y, cdCs q ra rb rc', 75)) (by simp)
          clear hnx hcv hrr HG HBW
          go_upto_region 9 with (fail)
          generalize hW7 : wr.alloc (.cells #[.string x.scene, .string x.setup, .int .i64 x.number, .string x.roll, .string x.sound, .int .i64 x.tin, .int .i64 x.tout, .bool x.good, .slice A8 cnn cc8] 122) = w7
          have HG8 := Lib.hid (show BO cvdR 75 w5 cur u7 [(wr.heap.size, tkCs x (.slice A8 cnn cc8), 122), (Y, cdCs q ra rb rc', 75)] w7 by rw [← hW7]; exact HG7.out)
          clear hW7 HG7 e0 e1 e2 e3 e4 e5 e6 e7 e8
          generalize wr.heap.size = X at *
          have HTC := Lib.hid (fun (P : List (Nat × Array Value × TypeId)) (W : World) (hW : BO cvdR 75 w5 cur u7 (P ++ [(X, tkCs x (.slice A8 cnn cc8), 122), (Y, cdCs q ra rb rc', 75)]) W) => show (W.cell? ⟨X, 0, none⟩ = some (.string x.scene) ∧ W.cell? ⟨X, 1, none⟩ = some (.string x.setup) ∧ W.cell? ⟨X, 2, none⟩ = some (.int .i64 x.number) ∧ W.cell? ⟨X, 3, none⟩ = some (.string x.roll) ∧ W.cell? ⟨X, 4, none⟩ = some (.string x.sound) ∧ W.cell? ⟨X, 5, none⟩ = some (.int .i64 x.tin) ∧ W.cell? ⟨X, 6, none⟩ = some (.int .i64 x.tout) ∧ W.cell? ⟨X, 7, none⟩ = some (.bool x.good) ∧ W.cell? ⟨X, 8, none⟩ = some (.slice A8 cnn cc8)) ∧ (W.cell? ⟨Y, 1, none⟩ = some (.int .i64 ra) ∧ W.cell? ⟨Y, 2, none⟩ = some (.int .i64 rb) ∧ W.cell? ⟨Y, 3, none⟩ = some (.int .i64 rc')) ∧ (W.frozen? ⟨Y, 1, none⟩ = false ∧ W.frozen? ⟨Y, 2, none⟩ = false ∧ W.frozen? ⟨Y, 3, none⟩ = false) ∧ X < W.heap.size ∧ Y < W.heap.size from by
            obtain ⟨y, _⟩ := hW.cell (p := (X, tkCs x (.slice A8 cnn cc8), 122)) (by simp)
            obtain ⟨z, zf⟩ := hW.cell (p := (Y, cdCs q ra rb rc', 75)) (by simp)
            exact ⟨⟨y 0, y 1, y 2, y 3, y 4, y 5, y 6, y 7, y 8⟩, ⟨z 1, z 2, z 3⟩, ⟨zf 1, zf 2, zf 3⟩, hW.plt (p := (X, tkCs x (.slice A8 cnn cc8), 122)) (by simp), hW.plt (p := (Y, cdCs q ra rb rc', 75)) (by simp)⟩)
          obtain ⟨⟨g0, g1, g2, g3, g4, g5, g6, g7, g8⟩, _, _, _⟩ := HTC.out [] w7 HG8.out
          have HCF := Lib.hid (coverOf_c (F := F2) x A8 cnn cc8 q w7 (HCV.out.below (HX5.out w7 HG8.out.bel).1 HT.out.lt) (fun b hb => Nat.lt_of_lt_of_le (HT.out.lt b hb) (HX5.out w7 HG8.out.bel).1.size) hcnn hcn)
          go_wp2_with fail
          refine HCF.out.mono ?_
          rintro e w8 ⟨rfl, hb8⟩
          have hG9 := (HG8.out.below hb8).new (cvCs (cov1V x q)) 124
          have hXZ : X < w8.heap.size := (HG8.out.below hb8).plt (p := (X, tkCs x (.slice A8 cnn cc8), 122)) (by simp)
          clear HCF hb8 HG8 g0 g1 g2 g3 g4 g5 g6 g7 g8
          obtain ⟨cc1, hcc1⟩ : ∃ cc1, cov1V x q = cc1 := ⟨_, rfl⟩
          have HC1 := Lib.hid hcc1
          rw [hcc1] at hG9 ⊢
          clear hcc1
          go_upto_region 10 with (fail)
          generalize hW9 : w8.alloc (.cells #[.int .i64 cc1.para, .int .i64 cc1.tin, .int .i64 cc1.tout, .bool cc1.on] 124) = w9
          have HG10 := Lib.hid (show BO cvdR 75 w5 cur u7 ([(w8.heap.size, cvCs cc1, 124)] ++ [(X, tkCs x (.slice A8 cnn cc8), 122), (Y, cdCs q ra rb rc', 75)]) w9 by rw [← hW9]; exact hG9)
          clear hG9 hW9
          generalize w8.heap.size = Z at *
          obtain ⟨_, x1, s0, hXw⟩ := HX5.out w9 HG10.out.bel
          obtain ⟨⟨g0, _, _, _, _, _, _, _, _⟩, _, _, hX9, hY9⟩ := HTC.out _ w9 HG10.out
          have hbs9 : bs < w9.heap.size := World.block_lt_of_cell? _ _ s0
          go_cut [14, 52] (fun s14 s52 wx => s14 = .bool (cov1 x q).isSome ∧ s52 = .bool (!refC (ls.map (·.1)) i q x) ∧ Hid (Below w9.heap.size w9 wx))
          case first =>
            cases hok : (cov1 x q).isSome with
            | false =>
              have HB := Lib.hid (show refC (ls.map (·.1)) i q x = false by rw [HRQ.out, hok]; rfl)
              have HO := Lib.hid hok
              clear hok
              go_quiet (fail)
              go_wp2
              go_meet
              exact ⟨by rw [HO.out], by rw [HB.out]; rfl, Lib.hid (below_drewN (Below.refl _ _) _)⟩
            | true =>
              by_cases hs : x.scene = s.no
              · have er : (x.scene.toList == s.no.toList) = true := by rw [hs]; exact beq_self_eq_true _
                have HB := Lib.hid (show refC (ls.map (·.1)) i q x = true by rw [HRQ.out, hok, decide_eq_true hs]; rfl)
                have HO := Lib.hid hok
                clear hok hs
                go_quiet (fail)
                go_wp2
                go_meet
                exact ⟨by rw [HO.out], by rw [HB.out]; rfl, Lib.hid (below_drewN (Below.refl _ _) _)⟩
              · have er : (x.scene.toList == s.no.toList) = false := by rw [beqS]; exact decide_eq_false hs
                have HB := Lib.hid (show refC (ls.map (·.1)) i q x = false by rw [HRQ.out, hok, decide_eq_false hs]; rfl)
                have HO := Lib.hid hok
                clear hok hs
                go_quiet (fail)
                go_wp2
                go_meet
                exact ⟨by rw [HO.out], by rw [HB.out]; rfl, Lib.hid (below_drewN (Below.refl _ _) _)⟩
          case rest =>
          obtain ⟨rfl, rfl, HB9⟩ := hcut
          have HG11 := Lib.hid (HG10.out.below HB9.out)
          clear g0 x1 s0 HG10 HB9
          obtain ⟨⟨_, _, _, _, _, _, _, g7, _⟩, ⟨z1, z2, z3⟩, ⟨f1, f2, f3⟩, hXc, hYc⟩ := HTC.out _ wc HG11.out
          have v3 : wc.cell? ⟨Z, 3, none⟩ = some (.bool cc1.on) := (HG11.out.cell (p := (Z, cvCs cc1, 124)) (by simp)).1 3
          have hZc : Z < wc.heap.size := World.block_lt_of_cell? _ _ v3
          have hXY : ¬ X = Y := by omega
          have hZY : ¬ Z = Y := by omega
          have HGY := Lib.hid (HG11.out.less (Q := [(Y, cdCs q ra rb rc', 75)]) (by simp))
          clear HG11 HTC
          cases hrc : refC (ls.map (·.1)) i q x with
          | false =>
            have HN2 := Lib.hid (show refTk (tl.map (·.1)) (ls.map (·.1)) i q (j + 1) = (q, ra, rb, rc') by rw [HNR.out, ← HRQ.out, hrc]; simp)
            clear hrc HNR
            go_wp2
            go_roundw
            case rel => exact ⟨j + 1, by omega, intNum, by rw [HN2.out]; exact HGY⟩
            case measure => simp [intOf]; omega
          | true =>
            obtain ⟨c', hc'⟩ : ∃ c', cov1 x q = some c' := by
              rw [HRQ.out] at hrc
              cases h : cov1 x q with
              | none => rw [h] at hrc; simp at hrc
              | some c => exact ⟨c, rfl⟩
            have hon : ((cov1 x q).map (·.on)).getD false = cc1.on := by rw [← HC1.out]; unfold cov1V; rw [hc']; rfl
            have HG12 := Lib.hid (show BO cvdR 75 w5 cur u7 [(Y, cdCs q (ra + 1) rb rc', 75)] (wc.setCell ⟨Y, 1, none⟩ (.int .i64 (ra + 1))) from HGY.out.set (i := 1) (fun h => h) (.int .i64 (ra + 1)) (by simp))
            cases hgd : x.good with
            | false =>
              rw [hgd] at g7
              have HN2 := Lib.hid (show refTk (tl.map (·.1)) (ls.map (·.1)) i q (j + 1) = (q, ra + 1, rb, rc') by rw [HNR.out, ← HRQ.out, hrc, hgd]; simp)
              clear hrc HNR hgd hon hc' HGY
              go_wp2
              go_roundw
              case rel => exact ⟨j + 1, by omega, intNum, by rw [HN2.out]; exact HG12⟩
              case measure => simp [intOf]; omega
            | true =>
              rw [hgd] at g7
              have HG13 := Lib.hid (show BO cvdR 75 w5 cur u7 [(Y, cdCs q (ra + 1) (rb + 1) rc', 75)] ((wc.setCell ⟨Y, 1, none⟩ (.int .i64 (ra + 1))).setCell ⟨Y, 2, none⟩ (.int .i64 (rb + 1))) from HG12.out.set (i := 2) (fun h => h) (.int .i64 (rb + 1)) (by simp))
              cases hon2 : cc1.on with
              | false =>
                rw [hon2] at v3
                have HN2 := Lib.hid (show refTk (tl.map (·.1)) (ls.map (·.1)) i q (j + 1) = (q, ra + 1, rb + 1, rc') by rw [HNR.out, ← HRQ.out, hrc, hgd, hon, hon2]; simp)
                clear hrc HNR hgd hon hon2 hc' HGY HG12
                go_wp2
                go_roundw
                case rel => exact ⟨j + 1, by omega, intNum, by rw [HN2.out]; exact HG13⟩
                case measure => simp [intOf]; omega
              | true =>
                rw [hon2] at v3
                have HN2 := Lib.hid (show refTk (tl.map (·.1)) (ls.map (·.1)) i q (j + 1) = (q, ra + 1, rb + 1, rc' + 1) by rw [HNR.out, ← HRQ.out, hrc, hgd, hon, hon2]; simp)
                have HG14 := Lib.hid (show BO cvdR 75 w5 cur u7 [(Y, cdCs q (ra + 1) (rb + 1) (rc' + 1), 75)] (((wc.setCell ⟨Y, 1, none⟩ (.int .i64 (ra + 1))).setCell ⟨Y, 2, none⟩ (.int .i64 (rb + 1))).setCell ⟨Y, 3, none⟩ (.int .i64 (rc' + 1))) from HG13.out.set (i := 3) (fun h => h) (.int .i64 (rc' + 1)) (by simp))
                clear hrc HNR hgd hon hon2 hc' HGY HG12 HG13
                go_wp2
                go_roundw
                case rel => exact ⟨j + 1, by omega, intNum, by rw [HN2.out]; exact HG14⟩
                case measure => simp [intOf]; omega
        · have hjL : j = L := by omega
          have HEQ2 := Lib.hid (show refTk (tl.map (·.1)) (ls.map (·.1)) i q j = cvdOf (ls.map (·.1)) (tl.map (·.1)) i q by rw [← HEQ.out, List.length_map, HL.out, hjL])
          obtain ⟨ra, rb, rc', hrr⟩ : ∃ a b c, refTk (tl.map (·.1)) (ls.map (·.1)) i q j = (q, a, b, c) := ⟨_, _, _, rfl⟩
          rw [hrr] at HG HEQ2
          dsimp only at HG
          obtain ⟨z, zf⟩ := HG.out.cell (p := (Y, cdCs q ra rb rc', 75)) (by simp)
          have z0 : wr.cell? ⟨Y, 0, none⟩ = some (.int .i64 q) := z 0
          have z1 : wr.cell? ⟨Y, 1, none⟩ = some (.int .i64 ra) := z 1
          have z2 : wr.cell? ⟨Y, 2, none⟩ = some (.int .i64 rb) := z 2
          have z3 : wr.cell? ⟨Y, 3, none⟩ = some (.int .i64 rc') := z 3
          have HG1 := Lib.hid (HG.out.less (Q := []) (by simp))
          clear z zf HG hj hrr hjL
          go_wp2_with (at_builtin; (refine wpList_pushB (R := cvdR) rfl _ _ _ rfl w5.heap.size w5.heap.size 75 i0 _ 32 Tryz.underlying55 hi0 hz0 hz1 hz2 rfl (by decide) _ u7 cur rfl (HG1.out.own.alloc _) (q, ra, rb, rc') _ rfl (oneC rfl) wr.heap.size _ _ (heap_alloc_new wr _) rfl (by rw [HQ.out]; simp [maxLen]; omega) (by rw [HQ.out]; omega) (by have := HG1.out.size; simp; omega) ?_); intro g7 cap7 w9 hown9 hg9 hat9 hlt9)
          go_roundw
          case rel => exact ⟨k + 1, by omega, intNum, by rw [HNX.out, ← HEQ2.out]; exact Lib.hid ((HG1.out.alloc (.cells #[.int .i64 q, .int .i64 ra, .int .i64 rb, .int .i64 rc'] 75)).more hown9 hg9 rfl hat9)⟩
          case measure => simp [intOf]; omega
    · have hkm : k = m := by omega
      have HE := Lib.hid (show ((needL s.paras).take k).map (cvdOf (ls.map (·.1)) (tl.map (·.1)) i) = coverL (ls.map (·.1)) (tl.map (·.1)) i by rw [HCO.out, List.take_of_length_le (by rw [HMM.out]; omega)])
      have hz5 := HB5.out.size
      clear hkm hk
      go_wp2
      go_ret
      exact ⟨_, rfl, by rw [← HE.out]; exact HG.out.own.less hz5, HB5.out.trans (HG.out.bel.mono hz5)⟩
end Go.Proofs.YtmefjkfjpgblcaaGreatDoor

/- The reference's list of what is missing, walked; the place of a scene. -/
namespace Go.Proofs.YtmefjkfjpgblcaaGreatDoor
set_option linter.unusedVariables false
open Go.RowKit Go.Sort

theorem cvdAt {w : World} {F : Nat → Prop} {l : List Cvd} {A : Option Addr} {n c : Nat} (h : Sli cvdR w F l (.slice A n c)) (k : Nat) (hk : k < l.length) : ∃ b off, A = some ⟨b, off, none⟩ ∧ F b ∧ w.cell? ⟨b, off + k * 4, none⟩ = some (.int .i64 l[k].1) ∧ w.cell? ⟨b, off + k * 4 + 1, none⟩ = some (.int .i64 l[k].2.1) ∧ w.cell? ⟨b, off + k * 4 + 2, none⟩ = some (.int .i64 l[k].2.2.1) ∧ w.cell? ⟨b, off + k * 4 + 3, none⟩ = some (.int .i64 l[k].2.2.2) := by
  obtain ⟨b, off, a, e, hb, hr, hc⟩ := h.at_ k hk
  have ha : a = [.int .i64 (l[k]).1, .int .i64 (l[k]).2.1, .int .i64 (l[k]).2.2.1, .int .i64 (l[k]).2.2.2] := hr
  subst ha
  exact ⟨b, off, e, hb, hc 0 _ rfl, hc 1 _ rfl, hc 2 _ rfl, hc 3 _ rfl⟩
def missC (i : Nat) (cl : List Cvd) (j : Nat) : List (Int × Int × Int) := ((cl.take j).filter fun c => decide (c.2.2.1 = 0)).map fun c => ((i : Int), c.1, 0)
theorem missC_next (i : Nat) (cl : List Cvd) (j : Nat) (hj : j < cl.length) : missC i cl (j + 1) = missC i cl j ++ (if cl[j].2.2.1 = 0 then [((i : Int), cl[j].1, 0)] else []) := by
  unfold missC
  rw [List.take_succ_eq_append_getElem hj, List.filter_append, List.map_append]
  congr 1
  by_cases h : cl[j].2.2.1 = 0
  · rw [if_pos h, List.filter_cons_of_pos (by exact decide_eq_true h)]; rfl
  · rw [if_neg h, List.filter_cons_of_neg (by exact fun e => h (of_decide_eq_true e))]; rfl
theorem missC_len (i : Nat) (cl : List Cvd) (j : Nat) : (missC i cl j).length ≤ j := by
  unfold missC
  rw [List.length_map]
  refine Nat.le_trans (List.length_filter_le _ _) ?_
  rw [List.length_take]; omega
theorem missTo_cover (sc : List Scene) (tl : List Tk) (k : Nat) : missTo sc tl (k + 1) = missTo sc tl k ++ missC k (coverL sc tl k) (coverL sc tl k).length := by
  unfold missTo
  rw [List.range_succ, List.flatMap_append]
  congr 1
  simp only [List.flatMap_cons, List.flatMap_nil, List.append_nil]
  rw [missI_cover]
  unfold missC
  rw [List.take_length]
theorem coverL_len (sc : List Scene) (tl : List Tk) (k : Nat) (hk : k < sc.length) : (coverL sc tl k).length ≤ sc[k].paras.length := by
  unfold coverL
  rw [List.length_map, List.getElem?_eq_getElem hk]
  exact needTo_len _ _
set_option maxRecDepth 100000 in
set_option maxHeartbeats 16000000 in
theorem MissingOf_c {F F2 : Nat → Prop} (t : ByteArray) (ls : List (Scene × Value)) (v : Value) (tl : List (Tk × Value)) (tv : Value) (w : World) (h : ScL w F t ls v) (ht : TkW w F2 tl tv) (hok : CvOk (ls.map (·.1)) (tl.map (·.1))) (hN : ls.length ≤ 100000) (hP : ∀ y ∈ ls, y.1.paras.length ≤ 1000) (hL3 : tl.length ≤ 3000) :
    Calls Tryz.prog 35 #[.agg #[.string t, v], tv] w fun e w' => ∃ v, e = .returned v ∧ Own spoR w' w.heap.size w.heap.size 66 (missL (ls.map (·.1)) (tl.map (·.1))) v ∧ Below w.heap.size w w' := by
  obtain ⟨A, c, rfl, hlc, hcm⟩ := h.sli.form
  obtain ⟨A2, c2, rfl, hlc2, hcm2⟩ := ht.sli.form
  obtain ⟨i0, hi0, hz0, hz1, hz2⟩ := info_parts (show (Tryz.prog.info? 66).map (fun i => (i.zero, i.size, i.bytes)) = some (some (.agg #[.int .i64 0, .int .i64 0, .int .i64 0]), 3, 24) by kernel_rfl)
  obtain ⟨n, hn⟩ : ∃ n, ls.length = n := ⟨_, rfl⟩
  obtain ⟨L, hL⟩ : ∃ L, tl.length = L := ⟨_, rfl⟩
  have HNN := Lib.hid hn
  have hG0 := (BO.start (R := spoR) (e := 66) w).new #[.string t, .slice A ls.length c] 44
  have hCO := fun (k : Nat) (hk : k < ls.length) (W : World) (hW : Below w.heap.size w W) => CoverageOf_c t ls (.slice A ls.length c) tl (.slice A2 tl.length c2) k W (h.below hW) (ht.below hW) hok hk hL3
  have HPL := Lib.hid (fun (k : Nat) (hk : k < ls.length) => show (coverL (ls.map (·.1)) (tl.map (·.1)) k).length ≤ 1000 from by
    have h1 := coverL_len (ls.map (·.1)) (tl.map (·.1)) k (by rw [List.length_map]; exact hk)
    rw [List.getElem_map] at h1
    exact Nat.le_trans h1 (hP _ (List.getElem_mem hk)))
  have HML := Lib.hid (fun (k : Nat) (hk : k ≤ n) => show (missTo (ls.map (·.1)) (tl.map (·.1)) k).length ≤ 100000000 from by
    have hml := missTo_len (ls.map (·.1)) (tl.map (·.1)) 1000 (fun s hs => by obtain ⟨y, hy, rfl⟩ := List.mem_map.1 hs; exact hP y hy) k (by rw [List.length_map, hn]; exact hk)
    omega)
  rw [hn] at hlc hG0 hN
  rw [hL] at hlc2 hL3
  have HCO := Lib.hid (show ∀ (k : Nat) (hk : k < ls.length) (W : World) (hW : Below w.heap.size w W), Calls Tryz.prog 40 #[.agg #[.string t, .slice A n c], .slice A2 L c2, .int .i64 (k : Int)] W (ConP (ls.map (·.1)) (tl.map (·.1)) k W) from fun k hk W hW => by rw [← hn, ← hL]; exact hCO k hk W hW)
  rw [hn, hL]
  have HG0 := Lib.hid hG0
  clear h ht hok hG0 hCO hn hL hP
  go_enter Tryz.func35, Tryz.ntmps35
  go_upto_region 2 with (fail)
  have hXc := (HG0.out.cell (p := (w.heap.size, #[.string t, .slice A n c], 44)) (by simp)).1
  have x1 : (w.alloc (.cells #[.string t, .slice A n c] 44)).cell? ⟨w.heap.size, 1, none⟩ = some (.slice A n c) := hXc 1
  clear hXc
  generalize w.alloc (.cells #[.string t, .slice A n c] 44) = w1 at *
  go_wp2
  go_loopw [5, 12] (fun ov iv wr => ∃ k : Nat, k ≤ n ∧ iv = .int .i64 k ∧ Hid (BO spoR 66 w (missTo (ls.map (·.1)) (tl.map (·.1)) k) ov [(w.heap.size, #[.string t, .slice A n c], 44)] wr)) (fun _ iv _ => n - (intOf iv).toNat)
  case atStart => exact ⟨0, Nat.zero_le _, rfl, HG0.out⟩
  case round =>
    clear HG0 x1
    obtain ⟨k, hk, rfl, HG⟩ := hrel
    by_cases hlt : k < n
    · have hil : k < ls.length := by rw [HNN.out]; exact hlt
      have hXc := (HG.out.cell (p := (w.heap.size, #[.string t, .slice A n c], 44)) (by simp)).1
      have x0 : wr.cell? ⟨w.heap.size, 0, none⟩ = some (.string t) := hXc 0
      have x1 : wr.cell? ⟨w.heap.size, 1, none⟩ = some (.slice A n c) := hXc 1
      have HC := Lib.hid (HCO.out k hil wr HG.out.bel)
      have HMN := missTo_cover (ls.map (·.1)) (tl.map (·.1)) k
      have hcl := HPL.out k hil
      have hml := HML.out k hk
      clear hXc
      go_wp2_with fail
      refine HC.out.mono ?_
      rintro e w6 ⟨cv, rfl, hown6, hb6⟩
      have HG6 := Lib.hid (HG.out.below hb6)
      have HI6 := Lib.hid (show Sli cvdR w6 (fun q => wr.heap.size ≤ q ∧ q < w6.heap.size) _ cv from hown6.sliF (fun q hq => hown6.block q hq))
      have HK6 := Lib.hid (show KeepR wr.heap.size w6 u5 w6 from ⟨fun _ _ _ => rfl, fun g hg => .inl (HG.out.own.block g hg).2, Nat.le_refl _⟩)
      clear HC hown6 hb6 HG x0 x1
      generalize coverL (ls.map (·.1)) (tl.map (·.1)) k = cl at *
      obtain ⟨A6, c6, rfl, hlc6, hcm6⟩ := HI6.out.form
      obtain ⟨m, hm⟩ : ∃ m, cl.length = m := ⟨_, rfl⟩
      have HMM := Lib.hid hm
      rw [hm] at HI6 hlc6 HMN hcl ⊢
      have HMN := Lib.hid HMN
      clear hm
      generalize missTo (ls.map (·.1)) (tl.map (·.1)) k = cur0 at *
      generalize wr.heap.size = z0 at *
      go_wp2
      go_loopw [5, 20] (fun ov iv wr => ∃ j : Nat, j ≤ m ∧ iv = .int .i64 j ∧ Hid (BO spoR 66 w (cur0 ++ missC k cl j) ov [(w.heap.size, #[.string t, .slice A n c], 44)] wr) ∧ Hid (KeepR z0 w6 ov wr)) (fun _ iv _ => m - (intOf iv).toNat)
      case atStart => exact ⟨0, Nat.zero_le _, rfl, by rw [show missC k cl 0 = [] from rfl, List.append_nil]; exact HG6, HK6.out⟩
      case round =>
        clear HG6 HK6
        obtain ⟨j, hj, rfl, HG, HK⟩ := hrel
        by_cases hjlt : j < m
        · have hj2 : j < cl.length := by rw [HMM.out]; exact hjlt
          obtain ⟨bi, oi, rfl, hfi, d0, d1, d2, d3⟩ := cvdAt (HI6.out.keep (fun b hb => HK.out.1 b hb.1 hb.2)) j hj2
          have HNX := Lib.hid (missC_next k cl j hj2)
          have hmil := missC_len k cl j
          obtain ⟨qn, hqn⟩ : ∃ qn, (cur0 ++ missC k cl j).length = qn := ⟨_, rfl⟩
          have hqk : qn ≤ 100001000 := by rw [← hqn, List.length_append]; omega
          have HQ := Lib.hid hqn
          generalize missC k cl j = cr at *
          generalize (cl[j]'hj2) = y at *
          obtain ⟨ya, yb, yc, yd⟩ := y
          dsimp only at d0 d1 d2 d3
          generalize hcc : cur0 ++ cr = cc at *
          have HCC := Lib.hid hcc
          have hbw : bi < wr.heap.size := World.block_lt_of_cell? _ _ d0
          have hG7 := HG.out.alloc (.cells #[.int .i64 ya, .int .i64 yb, .int .i64 yc, .int .i64 yd] 75)
          have hK7 := HK.out.below ((Below.refl _ wr).alloc (Nat.le_refl _) (.cells #[.int .i64 ya, .int .i64 yb, .int .i64 yc, .int .i64 yd] 75))
          have hnw := heap_alloc_new wr (.cells #[.int .i64 ya, .int .i64 yb, .int .i64 yc, .int .i64 yd] 75)
          clear hqn hcc HG HK
          go_upto_region 8 with (fail)
          generalize wr.alloc (.cells #[.int .i64 ya, .int .i64 yb, .int .i64 yc, .int .i64 yd] 75) = w7 at *
          have f0 : w7.cell? ⟨wr.heap.size, 0, none⟩ = some (.int .i64 ya) := (str_cells hnw).1 0
          have f2 : w7.cell? ⟨wr.heap.size, 2, none⟩ = some (.int .i64 yc) := (str_cells hnw).1 2
          have HG7 := Lib.hid hG7
          have HK7 := Lib.hid hK7
          clear hnw hG7 hK7 d0 d1 d2 d3
          by_cases hg0 : yc = 0
          · have e1 : (yc == 0) = true := beq_iff_eq.2 hg0
            have HN2 := Lib.hid (HNX.out.trans (by rw [if_pos hg0]))
            clear HNX hg0
            go_wp2_with (at_builtin; (refine wpList_pushB (R := spoR) rfl _ _ _ rfl w.heap.size w.heap.size 66 i0 _ 24 Tryz.underlying58 hi0 hz0 hz1 hz2 rfl (by decide) _ u5 cc rfl (HG7.out.own.alloc _) ((k : Int), ya, 0) _ rfl (oneC rfl) w7.heap.size _ _ (heap_alloc_new w7 _) rfl (by rw [HQ.out]; simp [maxLen]; omega) (by rw [HQ.out]; omega) (by have := HG7.out.size; simp; omega) ?_); intro g9 cap9 w9 hown9 hg9 hat9 hlt9)
            go_roundw
            case rel => exact ⟨j + 1, by omega, intNum, by rw [HN2.out, ← List.append_assoc, HCC.out]; exact Lib.hid ((HG7.out.alloc (.cells #[.int .i64 (k : Int), .int .i64 ya, .int .i64 0] 66)).more hown9 hg9 rfl hat9), Lib.hid ((HK7.out.below ((Below.refl _ w7).alloc (Nat.le_refl _) (.cells #[.int .i64 (k : Int), .int .i64 ya, .int .i64 0] 66))).push hg9 rfl hat9)⟩
            case measure => simp [intOf]; omega
          · have e1 : (yc == 0) = false := beq_eq_false_iff_ne.2 hg0
            have HN2 := Lib.hid (HNX.out.trans (by rw [if_neg hg0, List.append_nil]))
            clear HNX hg0
            go_wp2
            go_roundw
            case rel => exact ⟨j + 1, by omega, intNum, by rw [HN2.out, HCC.out]; exact HG7, HK7.out⟩
            case measure => simp [intOf]; omega
        · have hjm : j = m := by omega
          subst hjm
          rw [← HMN.out] at HG
          clear hj HK HMN
          go_wp2
          go_roundw
          case rel => exact ⟨k + 1, by omega, intNum, HG.out⟩
          case measure => simp [intOf]; omega
    · have hkm : k = n := by omega
      have HE := Lib.hid (show missTo (ls.map (·.1)) (tl.map (·.1)) k = missL (ls.map (·.1)) (tl.map (·.1)) by unfold missL; rw [List.length_map, HNN.out, hkm])
      clear hkm hk
      go_wp2
      go_ret
      exact ⟨_, rfl, by rw [← HE.out]; exact HG.out.own, HG.out.bel⟩
theorem SceneAt_c {F : Nat → Prop} (t : ByteArray) (ls : List (Scene × Value)) (v : Value) (s : ByteArray) (w : World) (h : ScL w F t ls v) (hn : ∀ y ∈ ls, ¬ y.1.no = ⟨#[]⟩) :
    Calls Tryz.prog 38 #[.agg #[.string t, v], .string s] w fun e w' => e = .returned (.int .i64 (idxV (scnIdx (ls.map (·.1)) s))) ∧ Below w.heap.size w w' := by
  obtain ⟨A, c, rfl, hlc, hcm⟩ := h.sli.form
  have hB := (Below.refl w.heap.size w).alloc (Nat.le_refl _) (.cells #[.string t, .slice A ls.length c] 44)
  have HSA := Lib.hid (sceneAt_c t ls (.slice A ls.length c) s (w.alloc (.cells #[.string t, .slice A ls.length c] 44)) (h.below hB) hn)
  have HB := Lib.hid hB
  generalize scnIdx (ls.map (·.1)) s = o at *
  generalize ls.length = n at *
  clear h hn hB
  go_enter Tryz.func38, Tryz.ntmps38
  go_wp2_with fail
  refine HSA.out.mono ?_
  rintro e w2 ⟨rfl, hb2⟩
  have HB2 := Lib.hid (HB.out.trans (hb2.mono HB.out.size))
  clear hb2 HSA HB
  go_wp2
  go_ret
  exact ⟨rfl, HB2.out⟩
end Go.Proofs.YtmefjkfjpgblcaaGreatDoor

/- Lists of coverage, of spots, of usages compared: the same list. -/
namespace Go.Proofs.YtmefjkfjpgblcaaGreatDoor
set_option linter.unusedVariables false
open Go.RowKit Go.Sort

theorem spoAt {w : World} {F : Nat → Prop} {l : List (Int × Int × Int)} {A : Option Addr} {n c : Nat} (h : Sli spoR w F l (.slice A n c)) (k : Nat) (hk : k < l.length) : ∃ b off, A = some ⟨b, off, none⟩ ∧ F b ∧ w.cell? ⟨b, off + k * 3, none⟩ = some (.int .i64 l[k].1) ∧ w.cell? ⟨b, off + k * 3 + 1, none⟩ = some (.int .i64 l[k].2.1) ∧ w.cell? ⟨b, off + k * 3 + 2, none⟩ = some (.int .i64 l[k].2.2) := by
  obtain ⟨b, off, a, e, hb, hr, hc⟩ := h.at_ k hk
  have ha : a = [.int .i64 (l[k]).1, .int .i64 (l[k]).2.1, .int .i64 (l[k]).2.2] := hr
  subst ha
  exact ⟨b, off, e, hb, hc 0 _ rfl, hc 1 _ rfl, hc 2 _ rfl⟩
theorem usgAt {w : World} {F : Nat → Prop} {l : List Usg} {A : Option Addr} {n c : Nat} (h : Sli usgR w F l (.slice A n c)) (k : Nat) (hk : k < l.length) : ∃ b off, A = some ⟨b, off, none⟩ ∧ F b ∧ w.cell? ⟨b, off + k * 4, none⟩ = some (.string l[k].1) ∧ w.cell? ⟨b, off + k * 4 + 1, none⟩ = some (.int .i64 l[k].2.1) ∧ w.cell? ⟨b, off + k * 4 + 2, none⟩ = some (.int .i64 l[k].2.2.1) ∧ w.cell? ⟨b, off + k * 4 + 3, none⟩ = some (.int .i64 l[k].2.2.2) := by
  obtain ⟨b, off, a, e, hb, hr, hc⟩ := h.at_ k hk
  have ha : a = [.string (l[k]).1, .int .i64 (l[k]).2.1, .int .i64 (l[k]).2.2.1, .int .i64 (l[k]).2.2.2] := hr
  subst ha
  exact ⟨b, off, e, hb, hc 0 _ rfl, hc 1 _ rfl, hc 2 _ rfl, hc 3 _ rfl⟩
set_option maxRecDepth 100000 in
set_option maxHeartbeats 800000 in
theorem eqCvd_c (l : List Cvd) (v1 v2 : Value) (F : Nat → Prop) (w : World) (h1 : Sli cvdR w F l v1) (h2 : Sli cvdR w F l v2) (hF : ∀ b, F b → b < w.heap.size) :
    Calls Tryz.prog 39 #[v1, v2] w fun e w' => e = .returned (.bool true) ∧ Below w.heap.size w w' := by
  obtain ⟨A1, c1, rfl, hlc1, hc1⟩ := h1.form
  obtain ⟨A2, c2, rfl, hlc2, hc2⟩ := h2.form
  have H1 := Lib.hid h1; clear h1
  have H2 := Lib.hid h2; clear h2
  have HF := Lib.hid hF; clear hF
  obtain ⟨n, hn1⟩ : ∃ n, l.length = n := ⟨_, rfl⟩
  rw [hn1] at H1 H2 hlc1 hlc2 ⊢
  have HN := Lib.hid hn1
  clear hn1
  go_enter Tryz.func39, Tryz.ntmps39
  go_wp2
  go_loopw [13] (fun i wr => ∃ k : Nat, k ≤ n ∧ i = .int .i64 k ∧ Below w.heap.size w wr) (fun i _ => n - (intOf i).toNat)
  case atStart => exact ⟨0, Nat.zero_le _, rfl, Below.refl _ _⟩
  case round =>
    obtain ⟨k, hk, rfl, hb⟩ := hrel
    by_cases hlt : k < n
    · have hk2 : k < l.length := by rw [HN.out]; exact hlt
      obtain ⟨b, off, rfl, hfb, c0, c1, c2, c3⟩ := cvdAt (H1.out.below hb HF.out) k hk2
      obtain ⟨b2, off2, rfl, hfb2, d0, d1, d2, d3⟩ := cvdAt (H2.out.below hb HF.out) k hk2
      generalize l[k] = x at *
      obtain ⟨x1, x2, x3, x4⟩ := x
      dsimp only at c0 c1 c2 c3 d0 d1 d2 d3
      go_wp2
      go_region
      go_wp2
      go_roundw
      · exact ⟨k + 1, by omega, intNum, by first | exact hb | exact hb.drew | exact below_drewN hb _⟩
      · simp [intOf]; omega
    · go_wp2
      go_ret
      exact ⟨rfl, hb⟩
set_option maxRecDepth 100000 in
set_option maxHeartbeats 800000 in
theorem eqSpo_c (l : List (Int × Int × Int)) (v1 v2 : Value) (F : Nat → Prop) (w : World) (h1 : Sli spoR w F l v1) (h2 : Sli spoR w F l v2) (hF : ∀ b, F b → b < w.heap.size) :
    Calls Tryz.prog 34 #[v1, v2] w fun e w' => e = .returned (.bool true) ∧ Below w.heap.size w w' := by
  obtain ⟨A1, c1, rfl, hlc1, hc1⟩ := h1.form
  obtain ⟨A2, c2, rfl, hlc2, hc2⟩ := h2.form
  have H1 := Lib.hid h1; clear h1
  have H2 := Lib.hid h2; clear h2
  have HF := Lib.hid hF; clear hF
  obtain ⟨n, hn1⟩ : ∃ n, l.length = n := ⟨_, rfl⟩
  rw [hn1] at H1 H2 hlc1 hlc2 ⊢
  have HN := Lib.hid hn1
  clear hn1
  go_enter Tryz.func34, Tryz.ntmps34
  go_wp2
  go_loopw [13] (fun i wr => ∃ k : Nat, k ≤ n ∧ i = .int .i64 k ∧ Below w.heap.size w wr) (fun i _ => n - (intOf i).toNat)
  case atStart => exact ⟨0, Nat.zero_le _, rfl, Below.refl _ _⟩
  case round =>
    obtain ⟨k, hk, rfl, hb⟩ := hrel
    by_cases hlt : k < n
    · have hk2 : k < l.length := by rw [HN.out]; exact hlt
      obtain ⟨b, off, rfl, hfb, c0, c1, c2⟩ := spoAt (H1.out.below hb HF.out) k hk2
      obtain ⟨b2, off2, rfl, hfb2, d0, d1, d2⟩ := spoAt (H2.out.below hb HF.out) k hk2
      generalize l[k] = x at *
      obtain ⟨x1, x2, x3⟩ := x
      dsimp only at c0 c1 c2 d0 d1 d2
      go_wp2
      go_region
      go_wp2
      go_roundw
      · exact ⟨k + 1, by omega, intNum, by first | exact hb | exact hb.drew | exact below_drewN hb _⟩
      · simp [intOf]; omega
    · go_wp2
      go_ret
      exact ⟨rfl, hb⟩
set_option maxRecDepth 100000 in
set_option maxHeartbeats 800000 in
theorem eqUsg_c (l : List Usg) (v1 v2 : Value) (F : Nat → Prop) (w : World) (h1 : Sli usgR w F l v1) (h2 : Sli usgR w F l v2) (hF : ∀ b, F b → b < w.heap.size) :
    Calls Tryz.prog 36 #[v1, v2] w fun e w' => e = .returned (.bool true) ∧ Below w.heap.size w w' := by
  obtain ⟨A1, c1, rfl, hlc1, hc1⟩ := h1.form
  obtain ⟨A2, c2, rfl, hlc2, hc2⟩ := h2.form
  have H1 := Lib.hid h1; clear h1
  have H2 := Lib.hid h2; clear h2
  have HF := Lib.hid hF; clear hF
  obtain ⟨n, hn1⟩ : ∃ n, l.length = n := ⟨_, rfl⟩
  rw [hn1] at H1 H2 hlc1 hlc2 ⊢
  have HN := Lib.hid hn1
  clear hn1
  go_enter Tryz.func36, Tryz.ntmps36
  go_wp2
  go_loopw [13] (fun i wr => ∃ k : Nat, k ≤ n ∧ i = .int .i64 k ∧ Below w.heap.size w wr) (fun i _ => n - (intOf i).toNat)
  case atStart => exact ⟨0, Nat.zero_le _, rfl, Below.refl _ _⟩
  case round =>
    obtain ⟨k, hk, rfl, hb⟩ := hrel
    by_cases hlt : k < n
    · have hk2 : k < l.length := by rw [HN.out]; exact hlt
      obtain ⟨b, off, rfl, hfb, c0, c1, c2, c3⟩ := usgAt (H1.out.below hb HF.out) k hk2
      obtain ⟨b2, off2, rfl, hfb2, d0, d1, d2, d3⟩ := usgAt (H2.out.below hb HF.out) k hk2
      generalize l[k] = x at *
      obtain ⟨x1, x2, x3, x4⟩ := x
      dsimp only at c0 c1 c2 c3 d0 d1 d2 d3
      go_wp2
      go_region
      go_wp2
      go_roundw
      · exact ⟨k + 1, by omega, intNum, by first | exact hb | exact hb.drew | exact below_drewN hb _⟩
      · simp [intOf]; omega
    · go_wp2
      go_ret
      exact ⟨rfl, hb⟩
end Go.Proofs.YtmefjkfjpgblcaaGreatDoor

