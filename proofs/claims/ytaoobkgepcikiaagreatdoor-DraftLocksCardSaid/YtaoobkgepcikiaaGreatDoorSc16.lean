/- Texts packed: ChkG. -/
import Derived.Test.YtaoobkgepcikiaaGreatDoorSc15
namespace Go.Proofs.YtaoobkgepcikiaaGreatDoor
set_option linter.unusedVariables false
open Go.RowKit Go.Sort
theorem sceneRE_next {t:ByteArray} {ls:List (Scene × Value)} {k:Nat} (hk:k < ls.length) (h:chkE ⟨t,ls.map (·.1)⟩ = scenesE k (seenAt ls k) ((ls.map (·.1)).drop k)) :
  chkE ⟨t,ls.map (·.1)⟩ = if ¬ sceneRE k (seenAt ls k) (ls[k]).1 = 0 then sceneRE k (seenAt ls k) (ls[k]).1 else scenesE (k + 1) (seenAt ls (k + 1)) ((ls.map (·.1)).drop (k + 1)):=by
 rw [h,List.drop_eq_getElem_cons (by rw [List.length_map]; exact hk),List.getElem_map,← sceneRE_eq,seenAt_step ls k hk]
set_option maxRecDepth 100000 in
set_option maxHeartbeats 8000000 in
theorem ScriptFault_c {F:Nat → Prop} (t:ByteArray) (ls:List (Scene × Value)) (v:Value) (w:World) (h:ScL w F t ls v) (hsp:SpLaid w) (hm:MaxLaid w) :
  Calls Tryz.prog 22 #[.agg #[.string t,v]] w (ChP ⟨t,ls.map (·.1)⟩ w):=by
 obtain ⟨A,c,rfl,hlc,hcm⟩:=h.sli.form
 have hll:=h.len
 have htl:=h.tl
 obtain ⟨L,hL⟩:∃ L,ls.length = L:=⟨_,rfl⟩
 have HL:=Lib.hid hL
 rw [hL] at h hlc hll ⊢
 have HH:=Lib.hid h
 have HM:=Lib.hid hm
 have HSP:=Lib.hid hsp
 have HB:=Lib.hid ((Below.refl w.heap.size w).alloc (Nat.le_refl _) (.cells #[.string t,.slice A L c] 28))
 have HLO:=Lib.hid (long_c t 1 60 (w.alloc (.cells #[.string t,.slice A L c] 28)) (by omega))
 have HPL:=Lib.hid (plainR_c t (w.alloc (.cells #[.string t,.slice A L c] 28)) (by omega) (sp_below hsp HB.out (Nat.le_refl _)))
 have HY:=Lib.hid (fun (W:World) (hb:Below (w.alloc (.cells #[.string t,.slice A L c] 28)).heap.size (w.alloc (.cells #[.string t,.slice A L c] 28)) W)=>show W.cell? ⟨w.heap.size,1,none⟩ = some (.slice A L c) by
  obtain ⟨y,_⟩:=str_cells ((hb.block w.heap.size (by simp)).trans (heap_alloc_new w _))
  exact y 1)
 clear hL h hm hsp
 by_cases h0:t.size < 1 ∨ 60 < t.size
 ·have HR:=Lib.hid (show chkE ⟨t,ls.map (·.1)⟩ = 3 from if_pos (by rcases h0 with h | h; exact .inl h; exact .inr (.inl h)))
  have hlo:(decide ((1:Int) ≤ t.size) && decide ((t.size:Int) ≤ 60)) = false:=by
   rcases h0 with h | h
   ·rw [decide_eq_false (by omega)]; rfl
   ·rw [decide_eq_false (p:=(t.size:Int) ≤ 60) (by omega)]; simp
  clear h0
  go_enter Tryz.func22,Tryz.ntmps22
  go_wp2_with (first | (go_at_call 55; with_reducible refine HLO.out.mono ?_; rintro e w' ⟨rfl,rfl⟩; rw [hlo]) | fail)
  go_ret
  exact ChP.mk HR.out HB.out
 have hlo:(decide ((1:Int) ≤ t.size) && decide ((t.size:Int) ≤ 60)) = true:=by rw [decide_eq_true (by omega),decide_eq_true (by omega)]; rfl
 cases hpl:plainB t with
 | false=>
  have HR:=Lib.hid (show chkE ⟨t,ls.map (·.1)⟩ = 3 from if_pos (.inr (.inr hpl)))
  clear h0
  go_enter Tryz.func22,Tryz.ntmps22
  go_wp2_with (first | (go_at_call 55; with_reducible refine HLO.out.mono ?_; rintro e w' ⟨rfl,rfl⟩; rw [hlo]) | (go_at_call 56; with_reducible refine HPL.out.mono ?_; rintro e w2 ⟨rfl,hb2⟩; rw [hpl]) | fail)
  go_ret
  exact ChP.mk HR.out (HB.out.trans (hb2.mono (by simp)))
 | true=>
 have HR1:=Lib.hid (show chkE ⟨t,ls.map (·.1)⟩ = if 300 < (ls.map (·.1)).length ∨ 4000 < parasN (ls.map (·.1)) then 2 else scenesE 0 [] (ls.map (·.1)) from if_neg (by dsimp only; rw [hpl]; rintro (h | h | h); exact h0 (.inl h); exact h0 (.inr h); cases h))
 clear h0
 go_enter Tryz.func22,Tryz.ntmps22
 go_wp2_with (first | (go_at_call 55; with_reducible refine HLO.out.mono ?_; rintro e w' ⟨rfl,rfl⟩; rw [hlo]) | (go_at_call 56; with_reducible refine HPL.out.mono ?_; rintro e w2 ⟨rfl,hb2⟩; rw [hpl]; have x1:=HY.out w2 hb2) | fail)
 have HB2:=Lib.hid (HB.out.trans (hb2.mono (by simp)))
 have hz2:w.heap.size < w2.heap.size:=Nat.lt_of_lt_of_le (by simp) hb2.size
 have HX1:=Lib.hid x1
 clear hpl HPL HLO hlo hb2 HY HB
 go_loopw [3,21] (fun s i wr=>∃ (k n:Nat),k ≤ L ∧ i = .int .i64 k ∧ s = .int .i64 n ∧ n ≤ 1000000 * k ∧ Hid (parasN ((ls.map (·.1)).take k) = n) ∧ Hid (Below w.heap.size w wr) ∧ w.heap.size < wr.heap.size ∧ wr.cell? ⟨w.heap.size,1,none⟩ = some (.slice A L c)) (fun _ i _=>L - (intOf i).toNat)
 case atStart=>exact ⟨0,0,Nat.zero_le _,rfl,rfl,by omega,rfl,HB2.out,hz2,HX1.out⟩
 case round=>
  clear HB2 x1 hz2
  obtain ⟨k,n,hk,rfl,rfl,hn,HN,HB,hzw,x1⟩:=hrel
  by_cases hlt:k < L
  ·have hk2:k < ls.length:=by rw [HL.out]; exact hlt
   obtain ⟨b,off,rfl,hfb,c0,c1,c2,c3,c4⟩:=scAt (HH.out.below HB.out).sli k hk2
   obtain ⟨A4,cc4,h4,_,_⟩:=(HH.out.par _ (List.getElem_mem hk2)).form
   have hbd:=(HH.out.bd _ (List.getElem_mem hk2)).2.2.1
   have hpn:=parasN_take (ls.map (·.1)) k (by rw [List.length_map]; exact hk2)
   rw [HN.out,List.getElem_map] at hpn
   rw [h4] at c4
   have hbw:b < wr.heap.size:=Nat.lt_of_lt_of_le (HH.out.lt b hfb) (by omega)
   clear h4
   generalize (ls[k]'hk2).1 = x at *
   have HPN:=Lib.hid hpn
   generalize x.paras.length = pl at *
   have HB1:=Lib.hid (HB.out.alloc (by omega) (.cells #[.string x.no,.int .i64 x.place,.string x.set,.int .i64 x.time,.slice A4 pl cc4] 46))
   have x1':(wr.alloc (.cells #[.string x.no,.int .i64 x.place,.string x.set,.int .i64 x.time,.slice A4 pl cc4] 46)).cell? ⟨w.heap.size,1,none⟩ = some (.slice (some ⟨b,off,none⟩) L c):=(World.cell?_alloc_lt wr _ ⟨w.heap.size,1,none⟩ hzw).trans x1
   clear hpn hk2
   go_wp2
   go_roundw
   case rel=>exact ⟨k + 1,n + pl,by omega,intNum,by congr 1,by omega,HPN.out,HB1.out,by simp; omega,x1'⟩
   case measure=>simp [intOf]; omega
  ·have HN2:=Lib.hid (show parasN (ls.map (·.1)) = n by
    have h:=HN.out
    rw [List.take_of_length_le (by rw [List.length_map,HL.out]; omega)] at h
    exact h)
   clear HN hn
   by_cases h300:300 < L ∨ 4000 < n
   ·have HR:=Lib.hid (HR1.out.trans (by rw [HN2.out,List.length_map,HL.out,if_pos h300]))
    by_cases h3:300 < L
    ·have h3':(300:Int) < (L:Int):=by omega
     clear h300
     go_wp2
     go_ret
     exact ChP.mk HR.out HB.out
    ·have h3':(L:Int) ≤ 300:=by omega
     have h4':(4000:Int) < (n:Int):=by omega
     clear h300
     go_wp2
     go_ret
     exact ChP.mk HR.out HB.out
   have HR2:=Lib.hid (HR1.out.trans (by rw [HN2.out,List.length_map,HL.out,if_neg h300]:_ = scenesE 0 [] (ls.map (·.1))))
   have h3':(L:Int) ≤ 300:=by omega
   have h4':(n:Int) ≤ 4000:=by omega
   have HX:=Lib.hid x1
   clear h300 HR1 HN2
   go_wp2
   go_loopw [42,6,7] (fun i _ _ wr=>∃ (k:Nat),k ≤ L ∧ i = .int .i64 k ∧ Hid (chkE ⟨t,ls.map (·.1)⟩ = scenesE k (seenAt ls k) ((ls.map (·.1)).drop k)) ∧ Hid (Below w.heap.size w wr) ∧ w.heap.size < wr.heap.size ∧ wr.cell? ⟨w.heap.size,1,none⟩ = some (.slice A L c)) (fun i _ _ _=>L - (intOf i).toNat)
   case atStart=>exact ⟨0,Nat.zero_le _,rfl,HR2.out,HB.out,hzw,HX.out⟩
   case round=>
    clear HB HR2 HX x1 hzw
    obtain ⟨k,hk,rfl,HE,HB,hzw,x1⟩:=hrel
    by_cases hlt:k < L
    ·have hk2:k < ls.length:=by rw [HL.out]; exact hlt
     have HST:=Lib.hid (sceneRE_next hk2 HE.out)
     have HSF:=Lib.hid (sceneFaultR_c t ls (.slice A L c) k wr (HH.out.below HB.out) hk2 (sp_below HSP.out HB.out (Nat.le_refl _)) (max_below HM.out HB.out (Nat.le_refl _)))
     generalize sceneRE k (seenAt ls k) (ls[k]'hk2).1 = se at *
     clear hk2 HE
     go_wp2_with fail
     with_reducible refine HSF.out.mono ?_
     rintro e w5 ⟨rfl,hb5⟩
     have x5:w5.cell? ⟨w.heap.size,1,none⟩ = some (.slice A L c):=(hb5.cell (p:=⟨w.heap.size,1,none⟩) hzw).trans x1
     have hz5:=hb5.size
     have HB5:=Lib.hid (HB.out.trans (hb5.mono (by omega)))
     have HX5:=Lib.hid x5
     clear hb5 HSF x1
     by_cases hs0:se = 0
     ·subst hs0
      have HR:=Lib.hid (HST.out.trans (if_neg (by decide)))
      go_wp2
      go_roundw
      case rel=>exact ⟨k + 1,by omega,intNum,HR.out,HB5.out,by omega,HX5.out⟩
      case measure=>simp [intOf]; omega
     ·have HR:=Lib.hid (HST.out.trans (if_pos hs0))
      have hne:(se != 0) = true:=by rw [bne_iff_ne]; exact hs0
      clear hs0 HST
      go_wp2
      go_ret
      exact ChP.mk HR.out HB5.out
    ·have HR:=Lib.hid (HE.out.trans (scenesE_end (ls.map (·.1)) k (seenAt ls k) (by rw [List.length_map,HL.out]; exact hlt)))
     go_wp2
     go_ret
     exact ChP.mk HR.out HB.out
end Go.Proofs.YtaoobkgepcikiaaGreatDoor
