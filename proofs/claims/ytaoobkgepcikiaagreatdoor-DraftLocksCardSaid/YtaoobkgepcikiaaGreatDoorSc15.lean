/- Texts packed: ChkF. -/
import Derived.Test.YtaoobkgepcikiaaGreatDoorSc09
import Derived.Test.YtaoobkgepcikiaaGreatDoorSc14
import Derived.Deep.DeepCutAuto
namespace Go.Proofs.YtaoobkgepcikiaaGreatDoor
set_option linter.unusedVariables false
open Go.RowKit Go.Sort
def PredS (P:Program) (g:Nat) (cb:Array Value) (p:Scene → Bool) (w:World):Prop:=
 (∀ args W,(callFunc g args).run P W = .ok (.enter g args) W) ∧ ∀ (s:Scene) (A:Option Addr) (n c:Nat) (W:World),Below w.heap.size w W → Calls P g (#[.agg #[.string s.no,.int .i64 s.place,.string s.set,.int .i64 s.time,.slice A n c]] ++ cb) W fun e w'=>e = .returned (.bool (p s)) ∧ Below W.heap.size W w'
set_option maxHeartbeats 800000 in
theorem idxScene_c {F:Nat → Prop} (l:List (Scene × Value)) (A:Option Addr) (c g:Nat) (cb:Array Value) (p:Scene → Bool) (w:World) (hv:Sli svR w F l (.slice A l.length c)) (hF:∀ b,F b → b < w.heap.size) (hf:∀ x ∈ l,∃ A n c,x.2 = .slice A n c) (hlen:l.length ≤ 1000000)
  (hp:PredS Tryz.prog g cb p w) :
  Calls Tryz.prog 172 #[.slice A l.length c,.func (.func g) #[] cb] w fun e w'=>e = .returned (.int .i64 (idxV (l.findIdx? fun x=>p x.1))) ∧ Below w.heap.size w w':=by
 have eg:=hp.1
 have HP:=Lib.hid hp.2
 have HV:=Lib.hid hv
 have HF:=Lib.hid hF
 have HFO:=Lib.hid hf
 obtain ⟨L,hL⟩:∃ L,l.length = L:=⟨_,rfl⟩
 have HL:=Lib.hid hL
 rw [hL] at HV hlen ⊢
 clear hp hv hF hf hL
 go_enter Tryz.func172,Tryz.ntmps172
 go_wp2
 go_loopw [5,8] (fun v i wr=>∃ k:Nat,k ≤ L ∧ i = .int .i64 k ∧ Below w.heap.size w wr ∧ Hid (∀ x ∈ l.take k,p x.1 = false)) (fun _ i _=>L - (intOf i).toNat)
 case atStart=>exact ⟨0,Nat.zero_le _,rfl,Below.refl _ _,by intro x hx; simp at hx⟩
 case round=>
  obtain ⟨k,hk,rfl,hb,HN⟩:=hrel
  by_cases hlt:k < L
  ·have hk2:k < l.length:=by rw [HL.out]; exact hlt
   obtain ⟨b,off,rfl,hfb,c0,c1,c2,c3,c4⟩:=scAt (HV.out.below hb HF.out) k hk2
   obtain ⟨A4,n4,cc4,h4⟩:=HFO.out _ (List.getElem_mem hk2)
   have HNX:=Lib.hid (fun (h:p (l[k]'hk2).1 = false)=>take_next (q:=fun x=>p x.1 = false) hk2 HN.out h)
   have HAT:=Lib.hid (fun (h:p (l[k]'hk2).1 = true)=>findIdx_at (p:=fun x=>p x.1) HN.out hk2 h)
   rw [h4] at c4
   clear h4
   generalize (l[k]'hk2).1 = x at *
   have HPX:=Lib.hid (HP.out x A4 n4 cc4 wr hb)
   have HBB:=Lib.hid hb
   clear hk2 HN hb
   cases hv:p x
   all_goals
    have HV:=Lib.hid hv; clear hv
    go_wp2_with fail
    refine HPX.out.mono ?_
    rintro e w' ⟨rfl,hb'⟩
    have HB2:=Lib.hid (HBB.out.trans (hb'.mono HBB.out.size))
    clear hb'
    rw [HV.out]
    go_wp2
   ·go_roundw
    case rel=>exact ⟨k + 1,by omega,intNum,HB2.out,HNX.out HV.out⟩
    case measure=>simp [intOf]; omega
   ·go_ret
    exact ⟨by rw [HAT.out HV.out]; rfl,HB2.out⟩
  ·go_wp2
   go_ret
   have H:=findIdx_no (take_all (q:=fun x:Scene × Value=>p x.1 = false) (by rw [HL.out]; exact hlt) HN.out)
   exact ⟨by rw [H]; rfl,hb⟩
set_option maxHeartbeats 800000 in
theorem hasScene_c {F:Nat → Prop} (l:List (Scene × Value)) (A:Option Addr) (c g n:Nat) (cb:Array Value) (p:Scene → Bool) (w:World) (hn:l.length = n) (hv:Sli svR w F l (.slice A l.length c)) (hF:∀ b,F b → b < w.heap.size) (hf:∀ x ∈ l,∃ A n c,x.2 = .slice A n c) (hlen:l.length ≤ 1000000)
  (hp:PredS Tryz.prog g cb p w) :
  Calls Tryz.prog 114 #[.slice A n c,.func (.func g) #[] cb] w fun e w'=>e = .returned (.bool (l.any fun x=>p x.1)) ∧ Below w.heap.size w w':=by
 subst hn
 have HI:=Lib.hid (idxV_any (fun x:Scene × Value=>p x.1) l)
 go_enter Tryz.func114,Tryz.ntmps114
 go_wp2_with fail
 refine (idxScene_c l A c g cb p _ hv hF hf hlen hp).mono ?_
 rintro e w' ⟨rfl,hb⟩
 go_wp2
 go_ret
 exact ⟨ret_bool HI.out,hb⟩
set_option maxHeartbeats 400000 in
theorem sceneFault1_p (s:ByteArray) (b:Nat) (w:World) (h:w.cell? ⟨b,0,none⟩ = some (.string s)) (hlt:b < w.heap.size) :
  PredS Tryz.prog 115 #[.pointer (some ⟨b,0,none⟩)] (fun y=>decide (y.no = s)) w:=by
 refine ⟨fun _ _=>by kernel_rfl,fun x A n c W hb=>?_⟩
 have hc:=cellC h hb hlt
 have hs:=hb.size
 have hl:b < W.heap.size:=by omega
 clear h hb hlt hs
 show Calls Tryz.prog _ #[.agg #[.string x.no,.int .i64 x.place,.string x.set,.int .i64 x.time,.slice A n c],.pointer (some ⟨b,0,none⟩)] W _
 go_enter Tryz.func115,Tryz.ntmps115
 go_wp2
 go_ret
 exact ⟨ret_bool (beqS _ _),(Below.refl _ _).alloc (Nat.le_refl _) _⟩
def seenAt (ls:List (Scene × Value)) (k:Nat):List ByteArray:=((ls.take k).map (·.1.no)).reverse
theorem seenAt_any (ls:List (Scene × Value)) (k:Nat) (s:ByteArray):((seenAt ls k).any fun y=>decide (y = s)) = (ls.take k).any fun x=>decide (x.1.no = s):=by
 unfold seenAt
 rw [List.any_reverse,List.any_map]
 rfl
theorem seenAt_step (ls:List (Scene × Value)) (k:Nat) (hk:k < ls.length):seenAt ls (k + 1) = ls[k].1.no :: seenAt ls k:=by
 unfold seenAt
 rw [List.take_succ_eq_append_getElem hk,List.map_append,List.reverse_append]
 rfl
theorem headE_vals (x:Scene):headE x = 5 ∨ headE x = 4 ∨ headE x = 3 ∨ headE x = 0:=by
 unfold headE
 split
 ·exact .inl rfl
 ·split
  ·exact .inr (.inl rfl)
  ·split
   ·exact .inr (.inr (.inl rfl))
   ·exact .inr (.inr (.inr rfl))
theorem parasRE_step (l:List Para) (k:Nat) (last:Int) (hk:k < l.length):parasRE last (l.drop k) = if ¬ paraRE last l[k] = 0 then paraRE last l[k] else parasRE l[k].kind (l.drop (k + 1)):=by
 rw [List.drop_eq_getElem_cons hk,parasRE]
theorem parasRE_end (l:List Para) (k:Nat) (last:Int) (hk:¬ k < l.length):parasRE last (l.drop k) = if last = 2 ∨ last = 3 then 7 else 0:=by
 rw [List.drop_eq_nil_of_le (by omega),parasRE]
def SrP (q:Int) (w:World) (e:Ending) (w':World):Prop:=e = .returned (.int .i64 q) ∧ Below w.heap.size w w'
theorem SrP.mk {r q:Int} {w w':World} (h:r = q) (hb:Below w.heap.size w w'):SrP r w (.returned (.int .i64 q)) w':=⟨by rw [h],hb⟩
theorem sli_forms {w:World} {F:Nat → Prop} {ls:List (Scene × Value)} (h:∀ y ∈ ls,Sli paraR w F y.1.paras y.2):∀ x ∈ ls,∃ A n c,x.2 = .slice A n c:=fun x hx=>by
 obtain ⟨A,c,e,_⟩:=(h x hx).form
 exact ⟨A,_,c,e⟩
set_option maxRecDepth 100000 in
set_option maxHeartbeats 8000000 in
theorem sceneFaultR_c {F:Nat → Prop} (t:ByteArray) (ls:List (Scene × Value)) (v:Value) (k:Nat) (w:World) (h:ScL w F t ls v) (hk:k < ls.length) (hsp:SpLaid w) (hm:MaxLaid w) :
  Calls Tryz.prog 57 #[v,.int .i64 k] w (SrP (sceneRE k (seenAt ls k) (ls[k]).1) w):=by
 obtain ⟨A,c,rfl,hlc,hcm⟩:=h.sli.form
 have hll:=h.len
 obtain ⟨L,hL⟩:∃ L,ls.length = L:=⟨_,rfl⟩
 have HL:=Lib.hid hL
 have hkL:k < L:=by omega
 obtain ⟨b,off,rfl,hfb,c0,c1,c2,c3,c4⟩:=scAt h.sli k hk
 obtain ⟨A4,cc4,h4,hp1,hp2⟩:=(h.par _ (List.getElem_mem hk)).form
 have hpa:=h.par _ (List.getElem_mem hk)
 obtain ⟨hbd1,hbd2,hbd3,hbd4⟩:=h.bd _ (List.getElem_mem hk)
 rw [h4] at c4 hpa
 have hbw:b < w.heap.size:=h.lt b hfb
 have HT:=Lib.hid ((Sli.take_ h.sli k (by omega)).more (fun q hq=>hq))
 have HTF:=Lib.hid (fun x (hx:x ∈ ls.take k)=>sli_forms h.par x (List.mem_of_mem_take hx))
 have HSA:=Lib.hid (seenAt_any ls k (ls[k]).1.no)
 have HF:=Lib.hid h.lt
 have htk:(ls.take k).length = k:=by rw [List.length_take]; omega
 have HTK:=Lib.hid htk
 clear h4
 rw [hL] at hlc hll h ⊢
 generalize (ls[k]'hk).1 = x at *
 have HSP:=Lib.hid hsp
 have HM:=Lib.hid hm
 have HPA:=Lib.hid hpa
 have HPT:=Lib.hid hbd4
 generalize hsn:seenAt ls k = seen at *
 clear hsn hpa hbd4 hsp hm h hk hL htk
 have HB:=Lib.hid ((Below.refl w.heap.size w).alloc (Nat.le_refl _) (.cells #[.string x.no,.int .i64 x.place,.string x.set,.int .i64 x.time,.slice A4 x.paras.length cc4] 46))
 have HH:=Lib.hid (headFault_c x A4 x.paras.length cc4 (w.alloc (.cells #[.string x.no,.int .i64 x.place,.string x.set,.int .i64 x.time,.slice A4 x.paras.length cc4] 46)) hbd1 hbd2 (sp_below HSP.out HB.out (Nat.le_refl _)) (max_below HM.out HB.out (Nat.le_refl _)))
 have HY:=Lib.hid (fun (W:World) (hb:Below (w.alloc (.cells #[.string x.no,.int .i64 x.place,.string x.set,.int .i64 x.time,.slice A4 x.paras.length cc4] 46)).heap.size (w.alloc (.cells #[.string x.no,.int .i64 x.place,.string x.set,.int .i64 x.time,.slice A4 x.paras.length cc4] 46)) W)=>show (W.cell? ⟨w.heap.size,0,none⟩ = some (.string x.no) ∧ W.cell? ⟨w.heap.size,3,none⟩ = some (.int .i64 x.time) ∧ W.cell? ⟨w.heap.size,4,none⟩ = some (.slice A4 x.paras.length cc4)) ∧ w.heap.size < W.heap.size ∧ Below w.heap.size w W by
  obtain ⟨y,_⟩:=str_cells ((hb.block w.heap.size (by simp)).trans (heap_alloc_new w _))
  exact ⟨⟨y 0,y 3,y 4⟩,Nat.lt_of_lt_of_le (by simp) hb.size,HB.out.trans (hb.mono (by simp))⟩)
 have HV:=Lib.hid (headE_vals x)
 have HRE:=Lib.hid (show sceneRE k seen x = _ from rfl)
 go_enter Tryz.func57,Tryz.ntmps57
 go_wp2_with fail
 with_reducible refine HH.out.mono ?_
 rintro e w2 ⟨rfl,hb2⟩
 have HB2:=Lib.hid hb2
 clear hb2 HH HB
 have HU:=Lib.hid (show sceneRE k seen x = if headE x = 5 then 5 else if ¬ x.no = ⟨#[]⟩ ∧ (seen.any fun y=>decide (y = x.no)) = true then 6 else if headE x = 4 then 4 else if k = 0 ∧ x.time = 5 then 7 else if ¬ headE x = 0 then headE x else parasRE 0 x.paras from rfl)
 clear HRE
 generalize headE x = he at *
 by_cases h5:he = 5
 ·subst h5
  have HR:=Lib.hid (HU.out.trans (if_pos rfl))
  go_wp2
  go_ret
  exact SrP.mk HR.out (HY.out w2 HB2.out).2.2
 have HU2:=Lib.hid (HU.out.trans (if_neg h5))
 have h5':(he == 5) = false:=beq_eq_false_iff_ne.2 h5
 have hv3:he = 4 ∨ he = 3 ∨ he = 0:=HV.out.resolve_left h5
 clear h5 HU HV
 go_upto_region 5 with (fail)
 generalize hTW:(!x.no.toList.isEmpty && (seen.any fun y=>decide (y = x.no))) = tw
 have HTW:=Lib.hid hTW
 clear hTW
 go_cut [29] (fun b wx=>b = .bool tw ∧ Hid (Below (w.alloc (.cells #[.string x.no,.int .i64 x.place,.string x.set,.int .i64 x.time,.slice A4 x.paras.length cc4] 46)).heap.size (w.alloc (.cells #[.string x.no,.int .i64 x.place,.string x.set,.int .i64 x.time,.slice A4 x.paras.length cc4] 46)) wx))
 case first=>
  obtain ⟨⟨d0,d3,d4⟩,hz2,hw2⟩:=HY.out w2 HB2.out
  have HW2:=Lib.hid hw2
  clear hw2 d3 d4
  cases hem:x.no.toList.isEmpty with
  | true=>
   have htw:=HTW.out
   rw [hem] at htw
   subst htw
   go_wp2
   go_meet
   exact ⟨rfl,HB2⟩
  | false=>
   have htw:=HTW.out
   rw [hem,HSA.out] at htw
   have HTW2:=Lib.hid htw
   have HP1:=Lib.hid (sceneFault1_p x.no w.heap.size w2 d0 hz2)
   have HCO:=Lib.hid (hasScene_c (F:=F) (ls.take k) (some ⟨b,off,none⟩) c 115 k #[.pointer (some ⟨w.heap.size,0,none⟩)] (fun y=>decide (y.no = x.no)) w2 HTK.out (by rw [HTK.out]; exact HT.out.below HW2.out HF.out) (fun q hq=>Nat.lt_of_lt_of_le (HF.out q hq) HW2.out.size) HTF.out (by rw [HTK.out]; omega) HP1.out)
   clear htw
   go_wp2_with fail
   refine HCO.out.mono ?_
   rintro e w3 ⟨rfl,hb3⟩
   have HB3:=Lib.hid (HB2.out.trans (hb3.mono HB2.out.size))
   clear hb3
   go_wp2
   go_meet
   exact ⟨by rw [← HTW2.out]; rfl,HB3⟩
 case rest=>
  obtain ⟨rfl,HB3⟩:=hcut
  obtain ⟨⟨d0,d3,d4⟩,hz2,hw2⟩:=HY.out wc HB3.out
  have HW2:=Lib.hid hw2
  clear hw2 d0 HB2 HSA HT HTF
  have HTQ:=Lib.hid (show (¬ x.no = ⟨#[]⟩ ∧ (seen.any fun y=>decide (y = x.no)) = true) ↔ tw = true by
   rw [← HTW.out,Bool.and_eq_true,Bool.not_eq_true',Bool.eq_false_iff]
   exact and_congr_left' (not_congr (empty_iff x.no).symm))
  cases tw with
  | true=>
   have HR:=Lib.hid (HU2.out.trans (if_pos (HTQ.out.2 rfl)))
   go_wp2
   go_ret
   exact SrP.mk HR.out HW2.out
  | false=>
  have HU3:=Lib.hid (HU2.out.trans (if_neg (fun h=>by have:=HTQ.out.1 h; cases this)))
  clear HU2 HTQ HTW
  by_cases h4:he = 4
  ·subst h4
   have HR:=Lib.hid (HU3.out.trans (if_pos rfl))
   go_wp2
   go_ret
   exact SrP.mk HR.out HW2.out
  have HU4:=Lib.hid (HU3.out.trans (if_neg h4))
  have h4':(he == 4) = false:=beq_eq_false_iff_ne.2 h4
  have hv4:he = 3 ∨ he = 0:=hv3.resolve_left h4
  clear h4 HU3 hv3
  by_cases h0:k = 0 ∧ x.time = 5
  ·have HR:=Lib.hid (HU4.out.trans (if_pos h0))
   have h0a:((k:Int) == 0) = true:=by rw [h0.1]; rfl
   have h0b:(x.time == 5) = true:=by rw [h0.2]; rfl
   clear h0 hv4
   go_wp2
   go_ret
   exact SrP.mk HR.out HW2.out
  have HU5:=Lib.hid (HU4.out.trans (if_neg h0))
  go_upto_region 9 with (fail)
  go_cut [39] (fun b wx=>b = .bool false ∧ wx = wc)
  case first=>
   by_cases hk0:k = 0
   ·have h0a:((k:Int) == 0) = true:=by rw [hk0]; rfl
    have h0b:(x.time == 5) = false:=beq_eq_false_iff_ne.2 (fun e=>h0 ⟨hk0,e⟩)
    clear h0 hk0 hv4
    go_wp2
    go_meet
    exact ⟨rfl,rfl⟩
   ·have h0a:((k:Int) == 0) = false:=beq_eq_false_iff_ne.2 (fun e=>hk0 (by omega))
    clear h0 hk0 hv4
    go_wp2
    go_meet
    exact ⟨rfl,rfl⟩
  case rest=>
   obtain ⟨rfl,rfl⟩:=hcut
   clear h0 HU4
   rcases hv4 with rfl | rfl
   ·have HR:=Lib.hid (HU5.out.trans (if_pos (by decide)))
    go_wp2
    go_ret
    exact SrP.mk HR.out HW2.out
   have HR:=Lib.hid (HU5.out.trans (if_neg (by decide)))
   clear HU5 h4' h5'
   obtain ⟨M,hM⟩:∃ M,x.paras.length = M:=⟨_,rfl⟩
   have HMM:=Lib.hid hM
   have HZ:=Lib.hid hz2
   rw [hM] at hp1 hbd3 HPA d4
   rw [hM] at HY
   clear hM
   go_wp2
   go_loopw [7,46] (fun la i wr=>∃ (j:Nat) (q:Int),j ≤ M ∧ i = .int .i64 j ∧ la = .int .i64 q ∧ Hid (sceneRE k seen x = parasRE q (x.paras.drop j)) ∧ Hid (Below w.heap.size w wr) ∧ w.heap.size < wr.heap.size) (fun _ i _=>M - (intOf i).toNat)
   case atStart=>exact ⟨0,0,Nat.zero_le _,rfl,rfl,HR.out,HW2.out,HZ.out⟩
   case round=>
    clear HR HW2 HZ d3 d4 hz2 HB3 HY
    obtain ⟨j,q,hj,rfl,rfl,HE,HB,hzw⟩:=hrel
    by_cases hlt:j < M
    ·have hk2:j < x.paras.length:=by rw [HMM.out]; exact hlt
     obtain ⟨b',off',rfl,hfb',p0,p1⟩:=para_at (HPA.out.below HB.out HF.out) j hk2
     have hst:=HE.out.trans (parasRE_step x.paras j q hk2)
     have htx:=HPT.out _ (List.getElem_mem hk2)
     have hbw':b' < wr.heap.size:=by have:=HF.out b' hfb'; omega
     generalize x.paras[j]'hk2 = p at *
     have HST:=Lib.hid hst
     have HB1:=Lib.hid (HB.out.alloc (by omega) (.cells #[.int .i64 p.kind,.string p.text] 78))
     have HPF:=Lib.hid (paraFaultR_c p q (wr.alloc (.cells #[.int .i64 p.kind,.string p.text] 78)) htx (sp_below HSP.out HB1.out (Nat.le_refl _)))
     clear hst hk2 HE
     go_wp2_with fail
     with_reducible refine HPF.out.mono ?_
     rintro e w5 ⟨rfl,hb5⟩
     have hz5:=hb5.size
     simp at hz5
     have HB5:=Lib.hid (HB1.out.trans (hb5.mono (by simp; omega)))
     have e0:w5.cell? ⟨wr.heap.size,0,none⟩ = some (.int .i64 p.kind):=(hb5.cell (p:=⟨wr.heap.size,0,none⟩) (by simp)).trans ((str_cells (heap_alloc_new wr _)).1 0)
     have hw5:wr.heap.size < w5.heap.size:=by omega
     clear hb5 HPF p0 p1
     by_cases hp0:paraRE q p = 0
     ·have HR:=Lib.hid (HST.out.trans (if_neg (by rw [hp0]; simp)))
      rw [hp0]
      clear hp0 HST
      go_wp2
      go_roundw
      case rel=>exact ⟨j + 1,p.kind,by omega,intNum,rfl,HR.out,HB5.out,by omega⟩
      case measure=>simp [intOf]; omega
     ·have HR:=Lib.hid (HST.out.trans (if_pos hp0))
      have hne:(paraRE q p != 0) = true:=by rw [bne_iff_ne]; exact hp0
      generalize paraRE q p = pe at *
      clear hp0 HST
      go_wp2
      go_ret
      exact SrP.mk HR.out HB5.out
    ·have hend:=HE.out.trans (parasRE_end x.paras j q (by rw [HMM.out]; exact hlt))
     rcases eqF q 2 with ⟨h2,h2a,h2b⟩ | ⟨h2,h2a,h2b⟩
     ·have HR:=Lib.hid (hend.trans (if_pos (.inl h2)))
      clear hend h2
      go_wp2
      go_ret
      exact SrP.mk HR.out HB.out
     rcases eqF q 3 with ⟨h3,h3a,h3b⟩ | ⟨h3,h3a,h3b⟩
     ·have HR:=Lib.hid (hend.trans (if_pos (.inr h3)))
      clear hend h2 h3
      go_wp2
      go_ret
      exact SrP.mk HR.out HB.out
     ·have HR:=Lib.hid (hend.trans (if_neg (by rintro (h | h); exact h2 h; exact h3 h)))
      clear hend h2 h3
      go_wp2
      go_ret
      exact SrP.mk HR.out HB.out
end Go.Proofs.YtaoobkgepcikiaaGreatDoor
