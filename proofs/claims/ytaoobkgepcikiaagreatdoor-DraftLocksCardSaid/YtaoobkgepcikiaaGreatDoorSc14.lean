/- Texts packed: ChkD. -/
import Derived.Test.YtaoobkgepcikiaaGreatDoorSc08
import Derived.Test.YtaoobkgepcikiaaGreatDoorSc01
import Derived.Test.YtaoobkgepcikiaaGreatDoorSc13
import Derived.RegionTactic
namespace Go.Proofs.YtaoobkgepcikiaaGreatDoor
set_option linter.unusedVariables false
open Go.RowKit Go.Sort
def seenC (seen:List ByteArray) (m:List (ByteArray × Value)):Prop:=∀ s,lk m s = if (seen.any fun y=>decide (y = s)) = true then some (.bool true) else none
theorem seenC_nil:seenC [] []:=fun s=>rfl
theorem seenC_up {seen:List ByteArray} {m:List (ByteArray × Value)} (h:seenC seen m) (x:ByteArray):seenC (x :: seen) (up m x (.bool true)):=fun s=>by
 rw [lk_up,h s]
 by_cases hs:s = x
 ·subst hs; rw [if_pos rfl,List.any_cons,decide_eq_true rfl,Bool.true_or,if_pos rfl]
 ·have:¬ x = s:=fun e=>hs e.symm
  rw [if_neg hs,List.any_cons,decide_eq_false this,Bool.false_or]
theorem keyN:PlainKey Tryz.prog 9 Value.string:=plainKey_string Tryz.underlying9
theorem zeroN (w:World):(zeroValue 4).run Tryz.prog w = .ok (.bool false) w:=by kernel_rfl
theorem scenesE_step (l:List Scene) (k:Nat) (seen:List ByteArray) (hk:k < l.length):scenesE k seen (l.drop k) = if ¬ l[k].no = ⟨#[]⟩ ∧ numB l[k].no = false then 5
  else if ¬ l[k].no = ⟨#[]⟩ ∧ (seen.any fun y=>decide (y = l[k].no)) = true then 6
  else if l[k].place < 1 ∨ 3 < l[k].place ∨ l[k].time < 1 ∨ 5 < l[k].time then 4
  else if k = 0 ∧ l[k].time = 5 then 7
  else if ¬ sceneE l[k] = 0 then sceneE l[k] else scenesE (k + 1) (l[k].no :: seen) (l.drop (k + 1)):=by
 rw [List.drop_eq_getElem_cons hk,scenesE]
theorem scenesE_end (l:List Scene) (k:Nat) (seen:List ByteArray) (hk:¬ k < l.length):scenesE k seen (l.drop k) = 0:=by
 rw [List.drop_eq_nil_of_le (by omega),scenesE]
structure ScL (w:World) (F:Nat → Prop) (t:ByteArray) (ls:List (Scene × Value)) (v:Value):Prop where
 sli:Sli svR w F ls v
 par:∀ y ∈ ls,Sli paraR w F y.1.paras y.2
 lt:∀ b,F b → b < w.heap.size
 tl:t.size ≤ 1000000
 len:ls.length ≤ 1000000
 bd:∀ y ∈ ls,y.1.no.size ≤ 1000000 ∧ y.1.set.size ≤ 1000000 ∧ y.1.paras.length ≤ 1000000 ∧ ∀ p ∈ y.1.paras,p.text.size ≤ 1000000
theorem ScL.below {w w':World} {F:Nat → Prop} {t:ByteArray} {ls:List (Scene × Value)} {v:Value} (h:ScL w F t ls v) (hb:Below w.heap.size w w'):ScL w' F t ls v:=
 ⟨h.sli.below hb h.lt,fun y hy=>(h.par y hy).below hb h.lt,fun b hF=>Nat.lt_of_lt_of_le (h.lt b hF) hb.size,h.tl,h.len,h.bd⟩
theorem scAt {w:World} {F:Nat → Prop} {l:List (Scene × Value)} {A:Option Addr} {n c:Nat} (h:Sli svR w F l (.slice A n c)) (k:Nat) (hk:k < l.length):∃ b off,A = some ⟨b,off,none⟩ ∧ F b ∧ w.cell? ⟨b,off + k * 5,none⟩ = some (.string l[k].1.no) ∧ w.cell? ⟨b,off + k * 5 + 1,none⟩ = some (.int .i64 l[k].1.place) ∧ w.cell? ⟨b,off + k * 5 + 2,none⟩ = some (.string l[k].1.set) ∧ w.cell? ⟨b,off + k * 5 + 3,none⟩ = some (.int .i64 l[k].1.time) ∧ w.cell? ⟨b,off + k * 5 + 4,none⟩ = some l[k].2:=by
 obtain ⟨b,off,a,e,hb,hr,hc⟩:=h.at_ k hk
 have ha:a = (l[k]).1.cells l[k].2:=hr
 subst ha
 exact ⟨b,off,e,hb,hc 0 _ rfl,hc 1 _ rfl,hc 2 _ rfl,hc 3 _ rfl,hc 4 _ rfl⟩
def ChP (x:Script) (w:World) (e:Ending) (w':World):Prop:=e = .returned (.int .i64 (chkE x)) ∧ Below w.heap.size w w'
theorem ChP.mk {x:Script} {q:Int} {w w':World} (h:chkE x = q) (hb:Below w.heap.size w w'):ChP x w (.returned (.int .i64 q)) w':=⟨by rw [h],hb⟩
theorem parasN_take (l:List Scene) (k:Nat) (hk:k < l.length):parasN (l.take (k + 1)) = parasN (l.take k) + l[k].paras.length:=by
 unfold parasN
 rw [List.take_succ_eq_append_getElem hk,List.map_append,List.sum_append]
 simp
set_option maxRecDepth 100000 in
set_option maxHeartbeats 8000000 in
theorem Check_c {F:Nat → Prop} (t:ByteArray) (ls:List (Scene × Value)) (v:Value) (w:World) (h:ScL w F t ls v) (hm:MaxLaid w) :
  Calls Tryz.prog 18 #[.agg #[.string t,v]] w (ChP ⟨t,ls.map (·.1)⟩ w):=by
 obtain ⟨A,c,rfl,hlc,hcm⟩:=h.sli.form
 have hll:=h.len
 have htl:=h.tl
 obtain ⟨L,hL⟩:∃ L,ls.length = L:=⟨_,rfl⟩
 have HL:=Lib.hid hL
 rw [hL] at h hlc hll ⊢
 have HH:=Lib.hid h
 have HM0:=Lib.hid hm
 have HB:=Lib.hid ((Below.refl w.heap.size w).alloc (Nat.le_refl _) (.cells #[.string t,.slice A L c] 28))
 have HPL:=Lib.hid (Plain_c t (w.alloc (.cells #[.string t,.slice A L c] 28)) (by omega) (max_alloc hm _))
 clear hL h hm
 by_cases h1:t.size < 1
 ·have HR:=Lib.hid (show chkE ⟨t,ls.map (·.1)⟩ = 3 from if_pos (.inl h1))
  have h1':(t.size:Int) < 1:=by omega
  go_enter Tryz.func18,Tryz.ntmps18
  go_wp2
  go_ret
  exact ChP.mk HR.out HB.out
 have h1':(1:Int) ≤ t.size:=by omega
 by_cases h2:60 < t.size
 ·have HR:=Lib.hid (show chkE ⟨t,ls.map (·.1)⟩ = 3 from if_pos (.inr (.inl h2)))
  have h2':(60:Int) < t.size:=by omega
  go_enter Tryz.func18,Tryz.ntmps18
  go_wp2
  go_ret
  exact ChP.mk HR.out HB.out
 have h2':(t.size:Int) ≤ 60:=by omega
 cases hpl:plainB t with
 | false=>
  have HR:=Lib.hid (show chkE ⟨t,ls.map (·.1)⟩ = 3 from if_pos (.inr (.inr hpl)))
  go_enter Tryz.func18,Tryz.ntmps18
  go_wp2_with (first | (go_at_call 44; refine HPL.out.mono ?_; rintro e w' ⟨rfl,rfl⟩; rw [hpl]) | fail)
  go_ret
  exact ChP.mk HR.out HB.out
 | true=>
 have HR1:=Lib.hid (show chkE ⟨t,ls.map (·.1)⟩ = if 300 < (ls.map (·.1)).length ∨ 4000 < parasN (ls.map (·.1)) then 2 else scenesE 0 [] (ls.map (·.1)) from if_neg (by dsimp only; rw [hpl]; rintro (h | h | h); omega; omega; cases h))
 clear h1 h2
 go_enter Tryz.func18,Tryz.ntmps18
 go_wp2_with (first | (go_at_call 44; refine HPL.out.mono ?_; rintro e w' ⟨rfl,rfl⟩; rw [hpl]) | fail)
 clear hpl HPL
 go_loopw [3,29] (fun s i wr=>∃ (k n:Nat),k ≤ L ∧ i = .int .i64 k ∧ s = .int .i64 n ∧ n ≤ 1000000 * k ∧ Hid (parasN ((ls.map (·.1)).take k) = n) ∧ Hid (Below w.heap.size w wr) ∧ w.heap.size < wr.heap.size ∧ wr.cell? ⟨w.heap.size,1,none⟩ = some (.slice A L c)) (fun _ i _=>L - (intOf i).toNat)
 case atStart=>exact ⟨0,0,Nat.zero_le _,rfl,rfl,by omega,rfl,HB.out,by simp,(str_cells (heap_alloc_new w _)).1 1⟩
 case round=>
  clear HB
  obtain ⟨k,n,hk,rfl,rfl,hn,HN,HB,hzw,x1⟩:=hrel
  by_cases hlt:k < L
  ·have hk2:k < ls.length:=by rw [HL.out]; exact hlt
   obtain ⟨b,off,rfl,hfb,c0,c1,c2,c3,c4⟩:=scAt (HH.out.below HB.out).sli k hk2
   obtain ⟨A4,cc4,h4,_,_⟩:=(HH.out.par _ (List.getElem_mem hk2)).form
   have hbd:=(HH.out.bd _ (List.getElem_mem hk2)).2.2.1
   have hpn:=parasN_take (ls.map (·.1)) k (by rw [List.length_map]; exact hk2)
   rw [HN.out,List.getElem_map] at hpn
   rw [h4] at c4
   have hbw:b < wr.heap.size:=Nat.lt_of_lt_of_le (HH.out.lt b hfb) (by omega)
   clear h4
   generalize (ls[k]'hk2).1 = x at *
   have HPN:=Lib.hid hpn
   generalize x.paras.length = pl at *
   have HB1:=Lib.hid (HB.out.alloc (by omega) (.cells #[.string x.no,.int .i64 x.place,.string x.set,.int .i64 x.time,.slice A4 pl cc4] 46))
   have x1':(wr.alloc (.cells #[.string x.no,.int .i64 x.place,.string x.set,.int .i64 x.time,.slice A4 pl cc4] 46)).cell? ⟨w.heap.size,1,none⟩ = some (.slice (some ⟨b,off,none⟩) L c):=(World.cell?_alloc_lt wr _ ⟨w.heap.size,1,none⟩ hzw).trans x1
   clear hpn hk2
   go_wp2
   go_roundw
   case rel=>exact ⟨k + 1,n + pl,by omega,intNum,by congr 1,by omega,HPN.out,HB1.out,by simp; omega,x1'⟩
   case measure=>simp [intOf]; omega
  ·have HN2:=Lib.hid (show parasN (ls.map (·.1)) = n by
    have h:=HN.out
    rw [List.take_of_length_le (by rw [List.length_map,HL.out]; omega)] at h
    exact h)
   clear HN hn
   by_cases h300:300 < L ∨ 4000 < n
   ·have HR:=Lib.hid (HR1.out.trans (by rw [HN2.out,List.length_map,HL.out,if_pos h300]))
    by_cases h3:300 < L
    ·have h3':(300:Int) < (L:Int):=by omega
     clear h300
     go_wp2
     go_ret
     exact ChP.mk HR.out HB.out
    ·have h3':(L:Int) ≤ 300:=by omega
     have h4':(4000:Int) < (n:Int):=by omega
     clear h300
     go_wp2
     go_ret
     exact ChP.mk HR.out HB.out
   have HR2:=Lib.hid (HR1.out.trans (by rw [HN2.out,List.length_map,HL.out,if_neg h300]:_ = scenesE 0 [] (ls.map (·.1))))
   have h3':(L:Int) ≤ 300:=by omega
   have h4':(n:Int) ≤ 4000:=by omega
   clear h300 HR1 HN2
   have hmm:=@run_makeMap Tryz.prog
   have HX:=Lib.hid (fun (W:World) (hb:Below wr.heap.size wr W)=>(hb.cell (p:=⟨w.heap.size,1,none⟩) hzw).trans x1)
   have hmk:=MapL.made (κ:=ByteArray) (mk:=Value.string) wr
   have x1a:(wr.alloc (.map #[] 0)).cell? ⟨w.heap.size,1,none⟩ = some (.slice A L c):=(World.cell?_alloc_lt wr _ ⟨w.heap.size,1,none⟩ hzw).trans x1
   have HMK:=Lib.hid hmk
   have HB0:=Lib.hid (HB.out.alloc (by omega) (.map #[] 0))
   clear hmk
   generalize hMb:wr.heap.size = Mb at *
   have hMw:w.heap.size < Mb:=by omega
   go_wp2
   clear x1 x1a HX
   go_loopw [51] (fun i wr=>∃ (k:Nat) (seen:List ByteArray) (mp:List (ByteArray × Value)),k ≤ L ∧ i = .int .i64 k ∧ Hid (chkE ⟨t,ls.map (·.1)⟩ = scenesE k seen ((ls.map (·.1)).drop k)) ∧ Hid (seenC seen mp) ∧ Hid (MapL wr Mb Value.string mp) ∧ Hid (Below w.heap.size w wr) ∧ Mb < wr.heap.size) (fun i _=>L - (intOf i).toNat)
   case atStart=>exact ⟨0,[],[],Nat.zero_le _,rfl,HR2.out,seenC_nil,HMK.out,HB0.out,by simp; omega⟩
   case round=>
    clear HMK HB0 HB HR2
    obtain ⟨k,seen,mp,hk,rfl,HE,HSE,HMP,HB,hzy⟩:=hrel
    by_cases hlt:k < L
    ·have hk2:k < ls.length:=by rw [HL.out]; exact hlt
     have hst:=HE.out.trans (scenesE_step (ls.map (·.1)) k seen (by rw [List.length_map]; exact hk2))
     rw [List.getElem_map] at hst
     obtain ⟨b,off,rfl,hfb,c0,c1,c2,c3,c4⟩:=scAt (HH.out.below HB.out).sli k hk2
     obtain ⟨A4,cc4,h4,_,_⟩:=(HH.out.par _ (List.getElem_mem hk2)).form
     have hpa:=fun (W:World) (hb:Below w.heap.size w W)=>((HH.out.par _ (List.getElem_mem hk2)).below hb HH.out.lt)
     obtain ⟨hb1,hb2,hb3,hb4⟩:=HH.out.bd _ (List.getElem_mem hk2)
     rw [h4] at c4 hpa
     have hbw:b < wr.heap.size:=Nat.lt_of_lt_of_le (HH.out.lt b hfb) (by omega)
     clear h4
     generalize (ls[k]'hk2).1 = x at *
     have HPA:=Lib.hid hpa
     have HPT:=Lib.hid hb4
     have HST:=Lib.hid hst
     have HB5:=Lib.hid (HB.out.alloc (by omega) (.cells #[.string x.no,.int .i64 x.place,.string x.set,.int .i64 x.time,.slice A4 x.paras.length cc4] 46))
     have HMP5:=Lib.hid (HMP.out.alloc (.cells #[.string x.no,.int .i64 x.place,.string x.set,.int .i64 x.time,.slice A4 x.paras.length cc4] 46))
     have HNU:=Lib.hid (IsNumber_c x.no (wr.alloc (.cells #[.string x.no,.int .i64 x.place,.string x.set,.int .i64 x.time,.slice A4 x.paras.length cc4] 46)) (by omega))
     have HY:=Lib.hid (fun (W:World) (hg:(wr.alloc (.cells #[.string x.no,.int .i64 x.place,.string x.set,.int .i64 x.time,.slice A4 x.paras.length cc4] 46)).grownBy W (some Mb))=>show W.cell? ⟨wr.heap.size,0,none⟩ = some (.string x.no) ∧ W.cell? ⟨wr.heap.size,1,none⟩ = some (.int .i64 x.place) ∧ W.cell? ⟨wr.heap.size,2,none⟩ = some (.string x.set) ∧ W.cell? ⟨wr.heap.size,3,none⟩ = some (.int .i64 x.time) ∧ W.cell? ⟨wr.heap.size,4,none⟩ = some (.slice A4 x.paras.length cc4) by
      obtain ⟨y,_⟩:=str_cells ((hg.block wr.heap.size (by simp) (by simp; omega)).trans (heap_alloc_new wr _))
      exact ⟨y 0,y 1,y 2,y 3,y 4⟩)
     have HE0:=Lib.hid (isEmpty_size x.no)
     clear hst hk2 HE hpa hb4 HB HMP
     cases he:x.no.toList.isEmpty with
     | true=>
      have hno:x.no = ⟨#[]⟩:=(empty_iff x.no).1 he
      have HST2:=Lib.hid (HST.out.trans ((if_neg (fun h=>h.1 hno)).trans (if_neg (fun h=>h.1 hno))))
      clear HST hno HNU
      by_cases q1:x.place < 1
      ·have HR:=Lib.hid (HST2.out.trans (if_pos (.inl q1)))
       go_wp2
       go_ret
       exact ChP.mk HR.out HB5.out
      have g1:1 ≤ x.place:=by omega
      by_cases q2:3 < x.place
      ·have HR:=Lib.hid (HST2.out.trans (if_pos (.inr (.inl q2))))
       go_wp2
       go_ret
       exact ChP.mk HR.out HB5.out
      have g2:x.place ≤ 3:=by omega
      by_cases q3:x.time < 1
      ·have HR:=Lib.hid (HST2.out.trans (if_pos (.inr (.inr (.inl q3)))))
       go_wp2
       go_ret
       exact ChP.mk HR.out HB5.out
      have g3:1 ≤ x.time:=by omega
      by_cases q4:5 < x.time
      ·have HR:=Lib.hid (HST2.out.trans (if_pos (.inr (.inr (.inr q4)))))
       go_wp2
       go_ret
       exact ChP.mk HR.out HB5.out
      have g4:x.time ≤ 5:=by omega
      have HST3:=Lib.hid (HST2.out.trans (if_neg (by rintro (h | h | h | h) <;> omega)))
      clear q1 q2 q3 q4
      by_cases h0:k = 0 ∧ x.time = 5
      ·have HR:=Lib.hid (HST3.out.trans (if_pos h0))
       have h0a:((k:Int) == 0) = true:=by rw [h0.1]; rfl
       have h0b:(x.time == 5) = true:=by rw [h0.2]; rfl
       clear h0
       go_wp2
       go_ret
       exact ChP.mk HR.out HB5.out
      have HST4:=Lib.hid (HST3.out.trans (if_neg h0))
      have HG0:=Lib.hid (show ((k:Int) == 0) = true → (x.time == 5) = false from fun e=>beq_eq_false_iff_ne.2 (fun e2=>h0 ⟨by have:=beq_iff_eq.1 e; omega,e2⟩))
      clear h0
      cases hk0:((k:Int) == 0) with
      | false=>
       clear HG0
       go_wp2_with (first | (at_mapUpdate; refine wpList_update_plain _ rfl _ _ _ 90 rfl 9 4 keyN Tryz.underlying90 Mb mp rfl HMP5.out x.no rfl (.bool true) rfl ?_; intro w6 hm6 hg6; obtain ⟨y0,y1,y2,y3,y4⟩:=HY.out w6 hg6; have hz6:wr.heap.size < w6.heap.size:=Nat.lt_of_lt_of_le (by simp) hg6.size) | fail)
       have HB6:=Lib.hid (HB5.out.grown hg6 (by simp; omega) (fun b hb=>by injection hb with hb; omega))
       have HSF:=Lib.hid (sceneFault_c (F:=F) x (.slice A4 x.paras.length cc4) w6 (HPA.out w6 HB6.out) (fun b hb=>Nat.lt_of_lt_of_le (HH.out.lt b hb) HB6.out.size) (by omega) (fun p hp=>by have:=HPT.out p hp; omega) (by omega) (max_below HM0.out HB6.out (Nat.le_refl _)))
       have HM6:=Lib.hid hm6
       clear hm6 hg6 y0 y1 y2 y3 y4
       refine HSF.out.mono ?_
       rintro e w7 ⟨rfl,hb7⟩
       have hz7:=hb7.size
       have HB7:=Lib.hid (HB6.out.trans (hb7.mono (by omega)))
       have HM7:=Lib.hid (HM6.out.below hb7 (by omega))
       clear hb7 HSF
       by_cases hs0:sceneE x = 0
       ·have HR:=Lib.hid (HST4.out.trans (if_neg (by rw [hs0]; decide)))
        rw [hs0]
        clear hs0
        go_wp2
        go_roundw
        case rel=>exact ⟨k + 1,x.no :: seen,up mp x.no (.bool true),by omega,intNum,HR.out,seenC_up HSE.out x.no,HM7.out,HB7.out,by omega⟩
        case measure=>simp [intOf]; omega
       ·have HR:=Lib.hid (HST4.out.trans (if_pos hs0))
        have hne:(sceneE x != 0) = true:=by rw [bne_iff_ne]; exact hs0
        generalize sceneE x = se at *
        clear hs0
        go_wp2
        go_ret
        exact ChP.mk HR.out HB7.out
      | true=>
       have ht5:=HG0.out hk0
       clear HG0
       go_wp2_with (first | (at_mapUpdate; refine wpList_update_plain _ rfl _ _ _ 90 rfl 9 4 keyN Tryz.underlying90 Mb mp rfl HMP5.out x.no rfl (.bool true) rfl ?_; intro w6 hm6 hg6; obtain ⟨y0,y1,y2,y3,y4⟩:=HY.out w6 hg6; have hz6:wr.heap.size < w6.heap.size:=Nat.lt_of_lt_of_le (by simp) hg6.size) | fail)
       have HB6:=Lib.hid (HB5.out.grown hg6 (by simp; omega) (fun b hb=>by injection hb with hb; omega))
       have HSF:=Lib.hid (sceneFault_c (F:=F) x (.slice A4 x.paras.length cc4) w6 (HPA.out w6 HB6.out) (fun b hb=>Nat.lt_of_lt_of_le (HH.out.lt b hb) HB6.out.size) (by omega) (fun p hp=>by have:=HPT.out p hp; omega) (by omega) (max_below HM0.out HB6.out (Nat.le_refl _)))
       have HM6:=Lib.hid hm6
       clear hm6 hg6 y0 y1 y2 y3 y4
       refine HSF.out.mono ?_
       rintro e w7 ⟨rfl,hb7⟩
       have hz7:=hb7.size
       have HB7:=Lib.hid (HB6.out.trans (hb7.mono (by omega)))
       have HM7:=Lib.hid (HM6.out.below hb7 (by omega))
       clear hb7 HSF
       by_cases hs0:sceneE x = 0
       ·have HR:=Lib.hid (HST4.out.trans (if_neg (by rw [hs0]; decide)))
        rw [hs0]
        clear hs0
        go_wp2
        go_roundw
        case rel=>exact ⟨k + 1,x.no :: seen,up mp x.no (.bool true),by omega,intNum,HR.out,seenC_up HSE.out x.no,HM7.out,HB7.out,by omega⟩
        case measure=>simp [intOf]; omega
       ·have HR:=Lib.hid (HST4.out.trans (if_pos hs0))
        have hne:(sceneE x != 0) = true:=by rw [bne_iff_ne]; exact hs0
        generalize sceneE x = se at *
        clear hs0
        go_wp2
        go_ret
        exact ChP.mk HR.out HB7.out
     | false=>
      have hno:¬ x.no = ⟨#[]⟩:=fun h=>by rw [(empty_iff x.no).2 h] at he; cases he
      cases hnb:numB x.no with
      | false=>
       have HR:=Lib.hid (HST.out.trans (if_pos ⟨hno,hnb⟩))
       clear HST hno
       go_wp2_with (first | (go_at_call 45; refine HNU.out.mono ?_; rintro e w' ⟨rfl,rfl⟩; rw [hnb]) | fail)
       go_ret
       exact ChP.mk HR.out HB5.out
      | true=>
       have HSTa:=Lib.hid (HST.out.trans (if_neg (by rintro ⟨_,h⟩; rw [hnb] at h; cases h)))
       cases hsn:(seen.any fun y=>decide (y = x.no)) with
       | true=>
        have HR:=Lib.hid (HSTa.out.trans (if_pos ⟨hno,hsn⟩))
        have HLK:=Lib.hid ((HSE.out x.no).trans (by rw [hsn]; rfl:_ = some (.bool true)))
        clear HST hno HSTa hsn
        go_wp2_with (first | (go_at_call 45; refine HNU.out.mono ?_; rintro e w' ⟨rfl,rfl⟩; rw [hnb]) | (at_lookup; refine wpList_lookup_g _ (by rfl) _ _ 90 false rfl 9 4 keyN Tryz.underlying90 (.bool false) (zeroN _) Mb mp rfl HMP5.out x.no rfl ?_; rw [HLK.out]; simp only [Bool.false_eq_true,if_false,Option.getD_some]) | fail)
        go_ret
        exact ChP.mk HR.out HB5.out
       | false=>
        have HLK:=Lib.hid ((HSE.out x.no).trans (by rw [hsn]; rfl:_ = none))
        have HST2:=Lib.hid (HSTa.out.trans (if_neg (by rintro ⟨_,h⟩; rw [hsn] at h; cases h)))
        clear HST hno HSTa hsn
        by_cases q1:x.place < 1
        ·have HR:=Lib.hid (HST2.out.trans (if_pos (.inl q1)))
         go_wp2_with (first | (go_at_call 45; refine HNU.out.mono ?_; rintro e w' ⟨rfl,rfl⟩; rw [hnb]) | (at_lookup; refine wpList_lookup_g _ (by rfl) _ _ 90 false rfl 9 4 keyN Tryz.underlying90 (.bool false) (zeroN _) Mb mp rfl HMP5.out x.no rfl ?_; rw [HLK.out]; simp only [Bool.false_eq_true,if_false,Option.getD_none]) | fail)
         go_ret
         exact ChP.mk HR.out HB5.out
        have g1:1 ≤ x.place:=by omega
        by_cases q2:3 < x.place
        ·have HR:=Lib.hid (HST2.out.trans (if_pos (.inr (.inl q2))))
         go_wp2_with (first | (go_at_call 45; refine HNU.out.mono ?_; rintro e w' ⟨rfl,rfl⟩; rw [hnb]) | (at_lookup; refine wpList_lookup_g _ (by rfl) _ _ 90 false rfl 9 4 keyN Tryz.underlying90 (.bool false) (zeroN _) Mb mp rfl HMP5.out x.no rfl ?_; rw [HLK.out]; simp only [Bool.false_eq_true,if_false,Option.getD_none]) | fail)
         go_ret
         exact ChP.mk HR.out HB5.out
        have g2:x.place ≤ 3:=by omega
        by_cases q3:x.time < 1
        ·have HR:=Lib.hid (HST2.out.trans (if_pos (.inr (.inr (.inl q3)))))
         go_wp2_with (first | (go_at_call 45; refine HNU.out.mono ?_; rintro e w' ⟨rfl,rfl⟩; rw [hnb]) | (at_lookup; refine wpList_lookup_g _ (by rfl) _ _ 90 false rfl 9 4 keyN Tryz.underlying90 (.bool false) (zeroN _) Mb mp rfl HMP5.out x.no rfl ?_; rw [HLK.out]; simp only [Bool.false_eq_true,if_false,Option.getD_none]) | fail)
         go_ret
         exact ChP.mk HR.out HB5.out
        have g3:1 ≤ x.time:=by omega
        by_cases q4:5 < x.time
        ·have HR:=Lib.hid (HST2.out.trans (if_pos (.inr (.inr (.inr q4)))))
         go_wp2_with (first | (go_at_call 45; refine HNU.out.mono ?_; rintro e w' ⟨rfl,rfl⟩; rw [hnb]) | (at_lookup; refine wpList_lookup_g _ (by rfl) _ _ 90 false rfl 9 4 keyN Tryz.underlying90 (.bool false) (zeroN _) Mb mp rfl HMP5.out x.no rfl ?_; rw [HLK.out]; simp only [Bool.false_eq_true,if_false,Option.getD_none]) | fail)
         go_ret
         exact ChP.mk HR.out HB5.out
        have g4:x.time ≤ 5:=by omega
        have HST3:=Lib.hid (HST2.out.trans (if_neg (by rintro (h | h | h | h) <;> omega)))
        clear q1 q2 q3 q4
        by_cases h0:k = 0 ∧ x.time = 5
        ·have HR:=Lib.hid (HST3.out.trans (if_pos h0))
         have h0a:((k:Int) == 0) = true:=by rw [h0.1]; rfl
         have h0b:(x.time == 5) = true:=by rw [h0.2]; rfl
         clear h0
         go_wp2_with (first | (go_at_call 45; refine HNU.out.mono ?_; rintro e w' ⟨rfl,rfl⟩; rw [hnb]) | (at_lookup; refine wpList_lookup_g _ (by rfl) _ _ 90 false rfl 9 4 keyN Tryz.underlying90 (.bool false) (zeroN _) Mb mp rfl HMP5.out x.no rfl ?_; rw [HLK.out]; simp only [Bool.false_eq_true,if_false,Option.getD_none]) | fail)
         go_ret
         exact ChP.mk HR.out HB5.out
        have HST4:=Lib.hid (HST3.out.trans (if_neg h0))
        have HG0:=Lib.hid (show ((k:Int) == 0) = true → (x.time == 5) = false from fun e=>beq_eq_false_iff_ne.2 (fun e2=>h0 ⟨by have:=beq_iff_eq.1 e; omega,e2⟩))
        clear h0
        cases hk0:((k:Int) == 0) with
        | false=>
         clear HG0
         go_wp2_with (first | (go_at_call 45; refine HNU.out.mono ?_; rintro e w' ⟨rfl,rfl⟩; rw [hnb]) | (at_lookup; refine wpList_lookup_g _ (by rfl) _ _ 90 false rfl 9 4 keyN Tryz.underlying90 (.bool false) (zeroN _) Mb mp rfl HMP5.out x.no rfl ?_; rw [HLK.out]; simp only [Bool.false_eq_true,if_false,Option.getD_none]) | (at_mapUpdate; refine wpList_update_plain _ rfl _ _ _ 90 rfl 9 4 keyN Tryz.underlying90 Mb mp rfl HMP5.out x.no rfl (.bool true) rfl ?_; intro w6 hm6 hg6; obtain ⟨y0,y1,y2,y3,y4⟩:=HY.out w6 hg6; have hz6:wr.heap.size < w6.heap.size:=Nat.lt_of_lt_of_le (by simp) hg6.size) | fail)
         have HB6:=Lib.hid (HB5.out.grown hg6 (by simp; omega) (fun b hb=>by injection hb with hb; omega))
         have HSF:=Lib.hid (sceneFault_c (F:=F) x (.slice A4 x.paras.length cc4) w6 (HPA.out w6 HB6.out) (fun b hb=>Nat.lt_of_lt_of_le (HH.out.lt b hb) HB6.out.size) (by omega) (fun p hp=>by have:=HPT.out p hp; omega) (by omega) (max_below HM0.out HB6.out (Nat.le_refl _)))
         have HM6:=Lib.hid hm6
         clear hm6 hg6 y0 y1 y2 y3 y4
         refine HSF.out.mono ?_
         rintro e w7 ⟨rfl,hb7⟩
         have hz7:=hb7.size
         have HB7:=Lib.hid (HB6.out.trans (hb7.mono (by omega)))
         have HM7:=Lib.hid (HM6.out.below hb7 (by omega))
         clear hb7 HSF
         by_cases hs0:sceneE x = 0
         ·have HR:=Lib.hid (HST4.out.trans (if_neg (by rw [hs0]; decide)))
          rw [hs0]
          clear hs0
          go_wp2
          go_roundw
          case rel=>exact ⟨k + 1,x.no :: seen,up mp x.no (.bool true),by omega,intNum,HR.out,seenC_up HSE.out x.no,HM7.out,HB7.out,by omega⟩
          case measure=>simp [intOf]; omega
         ·have HR:=Lib.hid (HST4.out.trans (if_pos hs0))
          have hne:(sceneE x != 0) = true:=by rw [bne_iff_ne]; exact hs0
          generalize sceneE x = se at *
          clear hs0
          go_wp2
          go_ret
          exact ChP.mk HR.out HB7.out
        | true=>
         have ht5:=HG0.out hk0
         clear HG0
         go_wp2_with (first | (go_at_call 45; refine HNU.out.mono ?_; rintro e w' ⟨rfl,rfl⟩; rw [hnb]) | (at_lookup; refine wpList_lookup_g _ (by rfl) _ _ 90 false rfl 9 4 keyN Tryz.underlying90 (.bool false) (zeroN _) Mb mp rfl HMP5.out x.no rfl ?_; rw [HLK.out]; simp only [Bool.false_eq_true,if_false,Option.getD_none]) | (at_mapUpdate; refine wpList_update_plain _ rfl _ _ _ 90 rfl 9 4 keyN Tryz.underlying90 Mb mp rfl HMP5.out x.no rfl (.bool true) rfl ?_; intro w6 hm6 hg6; obtain ⟨y0,y1,y2,y3,y4⟩:=HY.out w6 hg6; have hz6:wr.heap.size < w6.heap.size:=Nat.lt_of_lt_of_le (by simp) hg6.size) | fail)
         have HB6:=Lib.hid (HB5.out.grown hg6 (by simp; omega) (fun b hb=>by injection hb with hb; omega))
         have HSF:=Lib.hid (sceneFault_c (F:=F) x (.slice A4 x.paras.length cc4) w6 (HPA.out w6 HB6.out) (fun b hb=>Nat.lt_of_lt_of_le (HH.out.lt b hb) HB6.out.size) (by omega) (fun p hp=>by have:=HPT.out p hp; omega) (by omega) (max_below HM0.out HB6.out (Nat.le_refl _)))
         have HM6:=Lib.hid hm6
         clear hm6 hg6 y0 y1 y2 y3 y4
         refine HSF.out.mono ?_
         rintro e w7 ⟨rfl,hb7⟩
         have hz7:=hb7.size
         have HB7:=Lib.hid (HB6.out.trans (hb7.mono (by omega)))
         have HM7:=Lib.hid (HM6.out.below hb7 (by omega))
         clear hb7 HSF
         by_cases hs0:sceneE x = 0
         ·have HR:=Lib.hid (HST4.out.trans (if_neg (by rw [hs0]; decide)))
          rw [hs0]
          clear hs0
          go_wp2
          go_roundw
          case rel=>exact ⟨k + 1,x.no :: seen,up mp x.no (.bool true),by omega,intNum,HR.out,seenC_up HSE.out x.no,HM7.out,HB7.out,by omega⟩
          case measure=>simp [intOf]; omega
         ·have HR:=Lib.hid (HST4.out.trans (if_pos hs0))
          have hne:(sceneE x != 0) = true:=by rw [bne_iff_ne]; exact hs0
          generalize sceneE x = se at *
          clear hs0
          go_wp2
          go_ret
          exact ChP.mk HR.out HB7.out
    ·have HR:=Lib.hid (HE.out.trans (scenesE_end (ls.map (·.1)) k seen (by rw [List.length_map,HL.out]; exact hlt)))
     go_wp2
     go_ret
     exact ChP.mk HR.out HB.out
end Go.Proofs.YtaoobkgepcikiaaGreatDoor
