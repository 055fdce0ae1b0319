/- Texts packed: EqX, TmW, CopW. -/
import Derived.Test.YtaoobkgepcikiaaGreatDoorSc17
import Derived.Test.YtaoobkgepcikiaaGreatDoorSc15
import Derived.Test.YtaoobkgepcikiaaGreatDoorSc01
import Derived.Test.YtaoobkgepcikiaaGreatDoorSc13
import Derived.Test.YtaoobkgepcikiaaGreatDoorSc16
import Derived.Test.YtaoobkgepcikiaaGreatDoorSc08
namespace Go.Proofs.YtaoobkgepcikiaaGreatDoor
set_option linter.unusedVariables false
section
open Go.RowKit Go.Sort
def EqS (P:Program) (g:Nat):Prop:=
 (∀ args W,(callFunc g args).run P W = .ok (.enter g args) W) ∧ ∀ (x y:Scene) (u v:Value) (F:Nat → Prop) (W:World),Sli paraR W F x.paras u → Sli paraR W F y.paras v → (∀ b,F b → b < W.heap.size) →
  Calls P g #[.agg #[.string x.no,.int .i64 x.place,.string x.set,.int .i64 x.time,u],.agg #[.string y.no,.int .i64 y.place,.string y.set,.int .i64 y.time,v]] W fun e w'=>e = .returned (.bool (decide (x = y))) ∧ Below W.heap.size W w'
theorem eqS2:EqS Tryz.prog 65:=⟨fun _ _=>by kernel_rfl,fun x y u v F W h1 h2 h3=>sameScene1_c x y u v F W h1 h2 h3⟩
structure Sc2 (w:World) (F:Nat → Prop) (l:List (Scene × Value)) (v:Value):Prop where
 sli:Sli svR w F l v
 par:∀ y ∈ l,Sli paraR w F y.1.paras y.2
 lt:∀ b,F b → b < w.heap.size
theorem Sc2.below {w w':World} {F:Nat → Prop} {l:List (Scene × Value)} {v:Value} (h:Sc2 w F l v) (hb:Below w.heap.size w w'):Sc2 w' F l v:=
 ⟨h.sli.below hb h.lt,fun y hy=>(h.par y hy).below hb h.lt,fun b hF=>Nat.lt_of_lt_of_le (h.lt b hF) hb.size⟩
set_option maxRecDepth 100000 in
set_option maxHeartbeats 1600000 in
theorem eqScenes_c {F:Nat → Prop} (g:Nat) (l1 l2:List (Scene × Value)) (v1 v2:Value) (w:World) (h1:Sc2 w F l1 v1) (h2:Sc2 w F l2 v2) (hg:EqS Tryz.prog g) :
  Calls Tryz.prog 64 #[v1,v2,.func (.func g) #[] #[]] w fun e w'=>e = .returned (.bool (decide (l1.map (·.1) = l2.map (·.1)))) ∧ Below w.heap.size w w':=by
 obtain ⟨A1,c1,rfl,hlc1,hc1⟩:=h1.sli.form
 obtain ⟨A2,c2,rfl,hlc2,hc2⟩:=h2.sli.form
 have eg:=hg.1
 have HP:=Lib.hid hg.2
 have H1:=Lib.hid h1; clear h1
 have H2:=Lib.hid h2; clear h2
 clear hg
 by_cases hne:l1.length = l2.length
 ·obtain ⟨n,hn1⟩:∃ n,l1.length = n:=⟨_,rfl⟩
  have hn2:l2.length = n:=by omega
  have HN1:=Lib.hid hn1
  have HN2:=Lib.hid hn2
  rw [hn1] at H1 hlc1 ⊢
  rw [hn2] at H2 ⊢
  clear hn1 hn2 hne
  go_enter Tryz.func64,Tryz.ntmps64
  go_wp2
  go_loopw [17] (fun i wr=>∃ k:Nat,k ≤ n ∧ i = .int .i64 k ∧ Below w.heap.size w wr ∧ Hid ((l1.map (·.1)).take k = (l2.map (·.1)).take k)) (fun i _=>n - (intOf i).toNat)
  case atStart=>exact ⟨0,Nat.zero_le _,rfl,Below.refl _ _,rfl⟩
  case round=>
   obtain ⟨k,hk,rfl,hb,HT⟩:=hrel
   by_cases hlt:k < n
   ·have hk1:k < l1.length:=by rw [HN1.out]; exact hlt
    have hk2:k < l2.length:=by rw [HN2.out]; exact hlt
    have S1:=H1.out.below hb
    have S2:=H2.out.below hb
    obtain ⟨b,off,rfl,hfb,a0,a1,a2,a3,a4⟩:=scAt S1.sli k hk1
    obtain ⟨b2,off2,rfl,hfb2,d0,d1,d2,d3,d4⟩:=scAt S2.sli k hk2
    have hltb:b < wr.heap.size:=S1.lt b hfb
    have hltb2:b2 < wr.heap.size:=S2.lt b2 hfb2
    have p1:=S1.par _ (List.getElem_mem hk1)
    have p2:=S2.par _ (List.getElem_mem hk2)
    obtain ⟨A3,c3,e3,_,_⟩:=p1.form
    obtain ⟨A4,c4,e4,_,_⟩:=p2.form
    have HEQ:=Lib.hid (fun (W:World) (hW:Below w.heap.size w W) (hW2:Below wr.heap.size wr W)=>HP.out (l1[k]'hk1).1 (l2[k]'hk2).1 (l1[k]'hk1).2 (l2[k]'hk2).2 F W (p1.below hW2 S1.lt) (p2.below hW2 S2.lt) (fun b hb=>Nat.lt_of_lt_of_le (S1.lt b hb) hW2.size))
    have HYES:=Lib.hid (fun (h:(l1[k]'hk1).1 = (l2[k]'hk2).1)=>eq_take_next (a:=l1.map (·.1)) (b:=l2.map (·.1)) (k:=k) (by rw [List.length_map]; exact hk1) (by rw [List.length_map]; exact hk2) HT.out (by rw [List.getElem_map,List.getElem_map]; exact h))
    have HNO:=Lib.hid (fun (h:¬ (l1[k]'hk1).1 = (l2[k]'hk2).1)=>ne_at (a:=l1.map (·.1)) (b:=l2.map (·.1)) (k:=k) (by rw [List.length_map]; exact hk1) (by rw [List.length_map]; exact hk2) (by rw [List.getElem_map,List.getElem_map]; exact h))
    rw [e3] at a4 HEQ
    rw [e4] at d4 HEQ
    clear p1 p2 S1 S2 e3 e4
    generalize (l1[k]'hk1).1 = x at *
    generalize (l2[k]'hk2).1 = y at *
    generalize hx3:x.paras.length = n3 at *
    generalize hy4:y.paras.length = n4 at *
    have HBB:=Lib.hid hb
    clear hk1 hk2 hx3 hy4 hfb hfb2 hb
    have HB2:=Lib.hid (fun (o1 o2:Obj)=>show Below wr.heap.size wr ((wr.alloc o1).alloc o2) from (((Below.refl _ wr).alloc (Nat.le_refl _) o1).alloc (by simp) o2))
    by_cases hxy:x = y
    ·have HD:=Lib.hid (show decide (x = y) = true from decide_eq_true hxy)
     have HX:=Lib.hid (HYES.out hxy)
     clear hxy HYES HNO
     go_wp2_with fail
     refine (HEQ.out _ (by exact HBB.out.trans ((HB2.out _ _).mono HBB.out.size)) (by exact HB2.out _ _)).mono ?_
     rintro e w' ⟨rfl,hb'⟩
     have HB3:=Lib.hid (HBB.out.trans (((HB2.out _ _).trans (hb'.mono (HB2.out _ _).size)).mono HBB.out.size))
     clear hb'
     rw [HD.out]
     go_wp2
     go_roundw
     case rel=>exact ⟨k + 1,by omega,intNum,HB3.out,HX.out⟩
     case measure=>simp [intOf]; omega
    ·have HD:=Lib.hid (show decide (x = y) = false from decide_eq_false hxy)
     have HX:=Lib.hid (HNO.out hxy)
     clear hxy HYES HNO
     go_wp2_with fail
     refine (HEQ.out _ (by exact HBB.out.trans ((HB2.out _ _).mono HBB.out.size)) (by exact HB2.out _ _)).mono ?_
     rintro e w' ⟨rfl,hb'⟩
     have HB3:=Lib.hid (HBB.out.trans (((HB2.out _ _).trans (hb'.mono (HB2.out _ _).size)).mono HBB.out.size))
     clear hb'
     rw [HD.out]
     go_wp2
     go_ret
     exact ⟨ret_bool (by symm; simpa using HX.out),HB3.out⟩
   ·have e:k = n:=by omega
    have HN:=Lib.hid (show l1.map (·.1) = l2.map (·.1) by have:=HT.out; rwa [List.take_of_length_le (by rw [List.length_map,HN1.out]; omega),List.take_of_length_le (by rw [List.length_map,HN2.out]; omega)] at this)
    go_wp2
    go_ret
    exact ⟨ret_bool (by symm; simpa using HN.out),hb⟩
 ·have HN:=Lib.hid (show ¬ l1.map (·.1) = l2.map (·.1) by intro h; exact hne (by have:=congrArg List.length h; simpa using this))
  have hz:¬ (l1.length:Int) = l2.length:=by omega
  go_enter Tryz.func64,Tryz.ntmps64
  go_wp2
  go_ret
  exact ⟨ret_bool (by symm; simpa using HN.out),Below.refl _ _⟩
set_option maxRecDepth 100000 in
set_option maxHeartbeats 1600000 in
theorem SameScripts_c {F:Nat → Prop} (t1 t2:ByteArray) (l1 l2:List (Scene × Value)) (v1 v2:Value) (w:World) (h1:Sc2 w F l1 v1) (h2:Sc2 w F l2 v2) :
  Calls Tryz.prog 27 #[.agg #[.string t1,v1],.agg #[.string t2,v2]] w fun e w'=>e = .returned (.bool (decide ((⟨t1,l1.map (·.1)⟩:Script) = ⟨t2,l2.map (·.1)⟩))) ∧ Below w.heap.size w w':=by
 obtain ⟨A1,c1,rfl,_,_⟩:=h1.sli.form
 obtain ⟨A2,c2,rfl,_,_⟩:=h2.sli.form
 have H1:=Lib.hid h1
 have H2:=Lib.hid h2
 clear h1 h2
 obtain ⟨n1,hn1⟩:∃ n,l1.length = n:=⟨_,rfl⟩
 obtain ⟨n2,hn2⟩:∃ n,l2.length = n:=⟨_,rfl⟩
 rw [hn1] at H1 ⊢
 rw [hn2] at H2 ⊢
 clear hn1 hn2
 go_enter Tryz.func27,Tryz.ntmps27
 go_upto_region 1 with (fail)
 have hG:PvG w [(w.heap.size + 1,xCs t2 (.slice A2 n2 c2),28),(w.heap.size,xCs t1 (.slice A1 n1 c1),28)] ((w.alloc (.cells (xCs t1 (.slice A1 n1 c1)) 28)).alloc (.cells (xCs t2 (.slice A2 n2 c2)) 28)):=by
  have h:=((pvStart w).new (xCs t1 (.slice A1 n1 c1)) 28).new (xCs t2 (.slice A2 n2 c2)) 28
  rw [show (w.alloc (.cells (xCs t1 (.slice A1 n1 c1)) 28)).heap.size = w.heap.size + 1 by simp] at h
  exact h
 generalize hW:(w.alloc (.cells #[.string t1,.slice A1 n1 c1] 28)).alloc (.cells #[.string t2,.slice A2 n2 c2] 28) = w1
 have hG1:PvG w [(w.heap.size + 1,xCs t2 (.slice A2 n2 c2),28),(w.heap.size,xCs t1 (.slice A1 n1 c1),28)] w1:=by rw [← hW]; exact hG
 clear hG hW
 have ga:=(hG1.cell (p:=(w.heap.size,xCs t1 (.slice A1 n1 c1),28)) (by simp)).1
 have gb:=(hG1.cell (p:=(w.heap.size + 1,xCs t2 (.slice A2 n2 c2),28)) (by simp)).1
 have e0:w1.cell? ⟨w.heap.size,0,none⟩ = some (.string t1):=ga 0
 have e1:w1.cell? ⟨w.heap.size,1,none⟩ = some (.slice A1 n1 c1):=ga 1
 have d0:w1.cell? ⟨w.heap.size + 1,0,none⟩ = some (.string t2):=gb 0
 have d1:w1.cell? ⟨w.heap.size + 1,1,none⟩ = some (.slice A2 n2 c2):=gb 1
 have HB:=Lib.hid hG1.bel
 have HEQ:=Lib.hid (eqScenes_c 65 l1 l2 _ _ w1 (H1.out.below hG1.bel) (H2.out.below hG1.bel) eqS2)
 clear ga gb hG1 H1 H2
 by_cases ht:t1 = t2
 ·subst ht
  go_wp2_with fail
  refine HEQ.out.mono ?_
  rintro e w2 ⟨rfl,hb2⟩
  have HB2:=Lib.hid (HB.out.trans (hb2.mono HB.out.size))
  have HDE:=Lib.hid (show decide (l1.map (·.1) = l2.map (·.1)) = decide ((⟨t1,l1.map (·.1)⟩:Script) = ⟨t1,l2.map (·.1)⟩) by simp)
  generalize decide (l1.map (·.1) = l2.map (·.1)) = d at *
  go_wp2
  go_ret
  exact ⟨ret_bool HDE.out,HB2.out⟩
 ·have tt:=beq_ne ht
  have HN:=Lib.hid (show ¬ (⟨t1,l1.map (·.1)⟩:Script) = ⟨t2,l2.map (·.1)⟩ from fun e=>ht (by injection e))
  clear ht
  go_wp2
  go_ret
  exact ⟨ret_bool (by symm; simpa using HN.out),HB.out⟩
end
section
open Go.RowKit Go.Sort
def tmAt (l:List Scene):Nat → Int
 | 0=>((l[0]?).map (·.time)).getD 0
 | k + 1=>if ((l[k + 1]?).map (·.time)).getD 0 = 5 then tmAt l k else ((l[k + 1]?).map (·.time)).getD 0
def tmS (l:List Scene) (k:Nat):List Int:=(List.range k).map (tmAt l)
theorem tmS_snoc (l:List Scene) (k:Nat):tmS l (k + 1) = tmS l k ++ [tmAt l k]:=by simp [tmS,List.range_succ]
theorem tmS_len (l:List Scene) (k:Nat):(tmS l k).length = k:=by simp [tmS]
theorem tmAt_now {l:List Scene} {k:Nat} (hk:k < l.length) (h:¬ l[k].time = 5 ∨ k = 0):tmAt l k = l[k].time:=by
 cases k with
 | zero=>simp [tmAt,List.getElem?_eq_getElem hk]
 | succ k=>simp only [tmAt,List.getElem?_eq_getElem hk,Option.map_some,Option.getD_some]; rw [if_neg (h.resolve_right (by omega))]
theorem tmAt_last {l:List Scene} {k:Nat} (hk:k < l.length) (h:l[k].time = 5) (h0:0 < k):tmAt l k = tmAt l (k - 1):=by
 cases k with
 | zero=>omega
 | succ k=>simp only [tmAt,List.getElem?_eq_getElem hk,Option.map_some,Option.getD_some]; rw [if_pos h]; rfl
def TmP (l:List Scene) (w:World) (e:Ending) (w':World):Prop:=∃ v,e = .returned v ∧ Own intR w' w.heap.size w.heap.size 3 (tmS l l.length) v ∧ Below w.heap.size w w'
set_option maxRecDepth 100000 in
set_option maxHeartbeats 4000000 in
theorem timesP_c {F:Nat → Prop} (t:ByteArray) (l:List (Scene × Value)) (v:Value) (w:World) (h:Sc2 w F l v) (hl:l.length ≤ 1000) :
  Calls Tryz.prog 95 #[.agg #[.string t,v]] w (TmP (l.map (·.1)) w):=by
 obtain ⟨A,c,rfl,hc1,hc2⟩:=h.sli.form
 have HT:=Lib.hid h
 have HO:=Lib.hid (sli_forms h.par)
 obtain ⟨L,hL⟩:∃ L,l.length = L:=⟨_,rfl⟩
 have HL:=Lib.hid hL
 rw [hL] at hc1 hl ⊢
 obtain ⟨i0,hi0,hz0,hz1,hz2⟩:=info_parts (show (Tryz.prog.info? 3).map (fun i=>(i.zero,i.size,i.bytes)) = some (some (.int .i64 0),1,8) by kernel_rfl)
 clear hL h
 go_enter Tryz.func95,Tryz.ntmps95
 go_wp2
 go_loopw [3,10] (fun v i wr=>∃ k:Nat,k ≤ L ∧ i = .int .i64 k ∧ Hid (BO intR 3 w (tmS (l.map (·.1)) k) v [] wr) ∧ w.heap.size ≤ wr.heap.size) (fun _ i _=>L - (intOf i).toNat)
 case atStart=>exact ⟨0,Nat.zero_le _,rfl,(BO.start w).alloc _,by simp⟩
 case round=>
  obtain ⟨k,hk,rfl,HG,hzw⟩:=hrel
  by_cases hlt:k < L
  ·have hk2:k < l.length:=by rw [HL.out]; exact hlt
   have hS:=HT.out.below HG.out.bel
   obtain ⟨b,off,rfl,hfb,a0,a1,a2,a3,a4⟩:=scAt hS.sli k hk2
   have hltb:b < wr.heap.size:=hS.lt b hfb
   obtain ⟨A4,n4,c4,h4⟩:=HO.out _ (List.getElem_mem hk2)
   have hkm:k < (l.map (·.1)).length:=by rw [List.length_map]; exact hk2
   have HNOW:=Lib.hid (fun h=>tmAt_now (l:=l.map (·.1)) (k:=k) hkm h)
   have HLAST:=Lib.hid (fun h h0=>tmAt_last (l:=l.map (·.1)) (k:=k) hkm h h0)
   have hgm:(l.map (·.1))[k] = (l[k]).1:=List.getElem_map ..
   rw [hgm] at HNOW HLAST
   rw [h4] at a4
   clear h4 hS
   generalize (l[k]'hk2).1 = x at *
   clear hkm hgm hk2
   have HSN:=Lib.hid (tmS_snoc (l.map (·.1)) k)
   have HLE:=Lib.hid (tmS_len (l.map (·.1)) k)
   have HB1:=Lib.hid (HG.out.new #[.string x.no,.int .i64 x.place,.string x.set,.int .i64 x.time,.slice A4 n4 c4] 46)
   have HPRE:=Lib.hid (fun (h0:0 < k)=>show ∃ g cap,∃ z,z = tmAt (l.map (·.1)) (k - 1) ∧ u3 = .slice (some ⟨g,0,none⟩) k cap ∧ g < wr.heap.size ∧ wr.cell? ⟨g,k - 1,none⟩ = some (.int .i64 z) from by
    obtain ⟨g,cap,hv,hg1,hg2⟩:=Own.some_ (enc:=fun x:Int=>[.int .i64 x]) (hn:=fun _=>rfl) HG.out.own (by rw [tmS_len]; exact h0)
    rw [tmS_len] at hv
    have hO:=HG.out.own
    rw [hv] at hO
    have hc:=(Own.cellAt (enc:=fun x:Int=>[.int .i64 x]) (hn:=fun _=>rfl) hO (k - 1) (by rw [tmS_len]; omega) 0 (by decide)).1
    rw [show (k - 1) * 1 + 0 = k - 1 by omega] at hc
    refine ⟨g,cap,_,?_,hv,hg2,hc⟩
    simp [tmS])
   clear HG
   go_upto_region 5 with (fail)
   generalize hW:wr.alloc (.cells #[.string x.no,.int .i64 x.place,.string x.set,.int .i64 x.time,.slice A4 n4 c4] 46) = w5 at *
   have d3:w5.cell? ⟨wr.heap.size,3,none⟩ = some (.int .i64 x.time):=by rw [← hW]; exact ((str_cells (heap_alloc_new wr _)).1 3).trans rfl
   have fd3:w5.frozen? ⟨wr.heap.size,3,none⟩ = false:=by rw [← hW]; exact (str_cells (heap_alloc_new wr _)).2 3
   have hz5:w5.heap.size = wr.heap.size + 1:=by rw [← hW]; simp
   have hw5:wr.heap.size < w5.heap.size:=by omega
   have HCL:=Lib.hid (show ∀ (p:Addr),p.block < wr.heap.size → w5.cell? p = wr.cell? p from fun p hp=>by rw [← hW]; exact World.cell?_alloc_lt wr _ p hp)
   clear hW hz5 a0 a1 a2 a3 a4
   by_cases h5:x.time = 5
   ·by_cases hk0:0 < k
    ·have HV:=Lib.hid (HLAST.out h5 hk0)
     obtain ⟨g,cap,z,hz,rfl,hgl,hcz⟩:=HPRE.out hk0
     have hcz5:=(HCL.out ⟨g,k - 1,none⟩ hgl).trans hcz
     have i1:(0:Int) ≤ (k:Int) - 1:=by omega
     have i2:(k:Int) - 1 < (k:Int):=by omega
     have i3:((k:Int) - 1).toNat = k - 1:=by omega
     clear hcz HPRE
     have q5:(x.time == 5) = true:=beq_iff_eq.2 h5
     have HZ:=Lib.hid (HV.out.trans hz.symm)
     clear h5 HV HNOW HLAST hz
     go_wp2_with (at_builtin; (refine wpList_pushB (R:=intR) rfl _ _ _ rfl w.heap.size w.heap.size 3 i0 _ 8 Tryz.underlying22 hi0 hz0 (by assumption) (by assumption) rfl (by decide) _ _ (tmS (l.map (·.1)) k) rfl (HB1.out.own.alloc _) z _ rfl (oneC rfl) w5.heap.size _ _ (heap_alloc_new w5 _) rfl (by rw [HLE.out]; simp [maxLen]; omega) (by rw [HLE.out]; omega) (by simp; omega) ?_); rw [HLE.out]; intro g cap w6 hown6 hg6 hat6 hlt6)
     have hz6:=hg6.size
     simp at hz6
     go_roundw
     case rel=>exact ⟨k + 1,by omega,intNum,by rw [HSN.out,HZ.out]; exact Lib.hid ((HB1.out.less (Q:=[]) (by simp)).alloc _ |>.more hown6 hg6 rfl hat6),by omega⟩
     case measure=>simp [intOf]; omega
    ·have hk0':¬ 0 < (k:Int):=by omega
     have HV:=Lib.hid (HNOW.out (.inr (by omega)))
     have q5:(x.time == 5) = true:=beq_iff_eq.2 h5
     clear h5 HNOW HLAST HPRE hk0
     go_wp2_with (at_builtin; (refine wpList_pushB (R:=intR) rfl _ _ _ rfl w.heap.size w.heap.size 3 i0 _ 8 Tryz.underlying22 hi0 hz0 (by assumption) (by assumption) rfl (by decide) _ _ (tmS (l.map (·.1)) k) rfl (HB1.out.own.alloc _) x.time _ rfl (oneC rfl) w5.heap.size _ _ (heap_alloc_new w5 _) rfl (by rw [HLE.out]; simp [maxLen]; omega) (by rw [HLE.out]; omega) (by simp; omega) ?_); rw [HLE.out]; intro g cap w6 hown6 hg6 hat6 hlt6)
     have hz6:=hg6.size
     simp at hz6
     go_roundw
     case rel=>exact ⟨k + 1,by omega,intNum,by rw [HSN.out,HV.out]; exact Lib.hid ((HB1.out.less (Q:=[]) (by simp)).alloc _ |>.more hown6 hg6 rfl hat6),by omega⟩
     case measure=>simp [intOf]; omega
   ·have HV:=Lib.hid (HNOW.out (.inl h5))
    have q5:(x.time == 5) = false:=beq_eq_false_iff_ne.2 h5
    clear h5 HNOW HLAST HPRE
    go_wp2_with (at_builtin; (refine wpList_pushB (R:=intR) rfl _ _ _ rfl w.heap.size w.heap.size 3 i0 _ 8 Tryz.underlying22 hi0 hz0 (by assumption) (by assumption) rfl (by decide) _ _ (tmS (l.map (·.1)) k) rfl (HB1.out.own.alloc _) x.time _ rfl (oneC rfl) w5.heap.size _ _ (heap_alloc_new w5 _) rfl (by rw [HLE.out]; simp [maxLen]; omega) (by rw [HLE.out]; omega) (by simp; omega) ?_); rw [HLE.out]; intro g cap w6 hown6 hg6 hat6 hlt6)
    have hz6:=hg6.size
    simp at hz6
    go_roundw
    case rel=>exact ⟨k + 1,by omega,intNum,by rw [HSN.out,HV.out]; exact Lib.hid ((HB1.out.less (Q:=[]) (by simp)).alloc _ |>.more hown6 hg6 rfl hat6),by omega⟩
    case measure=>simp [intOf]; omega
  ·have HE:=Lib.hid (show tmS (l.map (·.1)) (l.map (·.1)).length = tmS (l.map (·.1)) k by rw [List.length_map,HL.out,show k = L by omega])
   go_wp2
   go_ret
   exact ⟨_,rfl,by rw [HE.out]; exact HG.out.own,HG.out.bel⟩
end
section
open Go.RowKit Go.Sort
structure BI (w:World) (l:List (Scene × Value)) (v:Value) (P:List (Nat × Array Value × TypeId)) (wx:World):Prop where
 bo:BO svR 46 w l v P wx
 inn:∀ y ∈ l,Sli paraR wx (InF w wx v P) y.1.paras y.2
section
variable {w wx wy:World} {l:List (Scene × Value)} {v:Value} {P Q:List (Nat × Array Value × TypeId)}
theorem BI.start (w:World):BI w [] (.slice none 0 0) [] w:=⟨BO.start w,fun x hx=>by cases hx⟩
theorem BI.below (h:BI w l v P wx) (hb:Below wx.heap.size wx wy):BI w l v P wy:=
 ⟨h.bo.below hb,fun y hy=>((h.inn y hy).below hb (fun q hq=>hq.2.1)).more fun q hq=>⟨hq.1,Nat.lt_of_lt_of_le hq.2.1 hb.size,hq.2.2⟩⟩
theorem BI.alloc (h:BI w l v P wx) (o:Obj):BI w l v P (wx.alloc o):=h.below ((Below.refl _ wx).alloc (Nat.le_refl _) o)
theorem BI.drew (h:BI w l v P wx):BI w l v P wx.drew:=⟨h.bo.drew,fun y hy=>(h.inn y hy).drew⟩
theorem BI.new (h:BI w l v P wx) (cs:Array Value) (T:TypeId):BI w l v ((wx.heap.size,cs,T) :: P) (wx.alloc (.cells cs T)):=⟨h.bo.new cs T,fun y hy=>innNew (h.inn y hy) cs T⟩
theorem BI.set {b i:Nat} {cs:Array Value} {T:TypeId} (h:BI w l v ((b,cs,T) :: P) wx) (u:Value) (hd:∀ p ∈ P,p.1 ≠ b):BI w l v ((b,cs.setIfInBounds i u,T) :: P) (wx.setCell ⟨b,i,none⟩ u):=⟨h.bo.set (fun h=>h) u hd,fun y hy=>innSet (h.inn y hy)⟩
theorem BI.less (h:BI w l v P wx) (hq:∀ p ∈ Q,p ∈ P):BI w l v Q wx:=⟨h.bo.less hq,fun y hy=>(h.inn y hy).more fun _ hF=>hF.less hq⟩
theorem BI.cell (h:BI w l v P wx) {p:Nat × Array Value × TypeId} (hp:p ∈ P):(∀ i,wx.cell? ⟨p.1,i,none⟩ = p.2.1[i]?) ∧ (∀ i,wx.frozen? ⟨p.1,i,none⟩ = false):=h.bo.cell hp
theorem BI.more {x':Scene × Value} {v':Value} {g:Nat} (h:BI w l v P wx) (hown:Own svR wy w.heap.size w.heap.size 46 (l ++ [x']) v') (hg:wx.grownBy wy v.ownBlock) (hv:v'.ownBlock = some g) (hat:v.ownBlock = some g ∨ g = wx.heap.size)
  (hi:Sli paraR wx (InF w wx v P) x'.1.paras x'.2):BI w (l ++ [x']) v' P wy:=by
 have key:∀ (k:List Para) u,Sli paraR wx (InF w wx v P) k u → Sli paraR wy (InF w wy v' P) k u:=fun k u hs=>
  (hs.keep fun q hq=>hg.block q hq.2.1 fun e=>hq.2.2.2 e.symm).more fun q hq=>⟨hq.1,Nat.lt_of_lt_of_le hq.2.1 hg.size,hq.2.2.1,by
   rw [hv]
   intro e
   injection e with e
   rcases hat with hat | hat
   ·exact hq.2.2.2 (by rw [hat,e])
   ·have:=hq.2.1; omega⟩
 exact ⟨h.bo.more hown hg hv hat,fun x hx=>by
  rcases List.mem_append.1 hx with hx | hx
  ·exact key _ _ (h.inn x hx)
  ·rw [List.mem_singleton] at hx; subst hx; exact key _ _ hi⟩
theorem BI.fresh (h:BI w l v P wx) (hz:wx.heap.size ≤ wy.heap.size) {k:List Para} {u:Value} (hs:Sli paraR wy (fun q=>wx.heap.size ≤ q ∧ q < wy.heap.size) k u):Sli paraR wy (InF w wy v P) k u:=
 hs.more fun q hq=>⟨Nat.le_trans h.bo.size hq.1,hq.2,fun p hp=>by have:=h.bo.plt hp; omega,fun e=>by have:=(h.bo.own.block q e).2; omega⟩
theorem BI.modify {g M cap j:Nat} (h:BI w l (.slice (some ⟨g,0,none⟩) M cap) P wx) (f:Scene × Value → Scene × Value) (k:Nat) (u:Value) (hf:∀ x,(f x).1.cells (f x).2 = (x.1.cells x.2).set j u) (hj:j < 5) (hk:k < l.length) (hi:∀ x,(f x).1.paras = x.1.paras ∧ (f x).2 = x.2) :
  BI w (l.modify k f) (.slice (some ⟨g,0,none⟩) M cap) P (wx.setCell ⟨g,k * 5 + j,none⟩ u):=by
 refine ⟨BO.modify (n:=5) (enc:=fun x:Scene × Value=>x.1.cells x.2) (hn:=fun _=>rfl) h.bo f k j u hf hj hk,fun y hy=>?_⟩
 have key:∀ x ∈ l,Sli paraR (wx.setCell ⟨g,k * 5 + j,none⟩ u) (InF w (wx.setCell ⟨g,k * 5 + j,none⟩ u) (.slice (some ⟨g,0,none⟩) M cap) P) x.1.paras x.2:=fun x hx=>
  ((h.inn x hx).setCell u (p:=⟨g,k * 5 + j,none⟩) (fun hF=>hF.2.2.2 rfl)).more fun q hq=>⟨hq.1,by simpa [World.setCell] using hq.2.1,hq.2.2⟩
 rcases mem_mod hy with hy | ⟨x,hx,rfl⟩
 ·exact key y hy
 ·rw [(hi x).1,(hi x).2]; exact key x hx
end
def CopP (t:ByteArray) (l:List (Scene × Value)) (w:World) (e:Ending) (w':World):Prop:=∃ (l':List (Scene × Value)) (v':Value),e = .returned (.agg (xCs t v')) ∧ l'.map (·.1) = l.map (·.1) ∧ BI w l' v' [] w'
set_option maxRecDepth 100000 in
set_option maxHeartbeats 4000000 in
theorem copied_c {F:Nat → Prop} (t:ByteArray) (l:List (Scene × Value)) (v:Value) (w:World) (h:Sc2 w F l v) (hl:l.length ≤ 1000) (hp:∀ y ∈ l,y.1.paras.length ≤ 1000000) :
  Calls Tryz.prog 93 #[.agg #[.string t,v]] w (CopP t l w):=by
 obtain ⟨A,c,rfl,hc1,hc2⟩:=h.sli.form
 have HT:=Lib.hid h
 have HO:=Lib.hid (sli_forms h.par)
 have HPL:=Lib.hid hp
 obtain ⟨L,hL⟩:∃ L,l.length = L:=⟨_,rfl⟩
 have HL:=Lib.hid hL
 rw [hL] at hc1 hl ⊢
 obtain ⟨i0,hi0,hz0,hz1,hz2⟩:=info_parts (show (Tryz.prog.info? 46).map (fun i=>(i.zero,i.size,i.bytes)) = some (some (.agg #[.string ⟨#[]⟩,.int .i64 0,.string ⟨#[]⟩,.int .i64 0,.slice none 0 0]),5,72) by kernel_rfl)
 clear hL h hp
 go_enter Tryz.func93,Tryz.ntmps93
 go_upto_region 2 with (fail)
 have hG:BI w [] (.slice none 0 0) [(w.heap.size + 2,xCs t (.slice none 0 0),28),(w.heap.size + 1,xCs ⟨#[]⟩ (.slice none 0 0),28),(w.heap.size,xCs t (.slice A L c),28)]
   (((w.alloc (.cells (xCs t (.slice A L c)) 28)).alloc (.cells (xCs ⟨#[]⟩ (.slice none 0 0)) 28)).alloc (.cells (xCs t (.slice none 0 0)) 28)):=by
  have h:=(((BI.start w).new (xCs t (.slice A L c)) 28).new (xCs ⟨#[]⟩ (.slice none 0 0)) 28).new (xCs t (.slice none 0 0)) 28
  rw [show ((w.alloc (.cells (xCs t (.slice A L c)) 28)).alloc (.cells (xCs ⟨#[]⟩ (.slice none 0 0)) 28)).heap.size = w.heap.size + 2 by simp,show (w.alloc (.cells (xCs t (.slice A L c)) 28)).heap.size = w.heap.size + 1 by simp] at h
  exact h
 generalize hW:((w.alloc (.cells #[.string t,.slice A L c] 28)).alloc (.cells #[.string ⟨#[]⟩,.slice none 0 0] 28)).alloc (.cells #[.string t,.slice none 0 0] 28) = w1
 have G1:=Lib.hid (show BI w [] (.slice none 0 0) [(w.heap.size + 2,xCs t (.slice none 0 0),28),(w.heap.size + 1,xCs ⟨#[]⟩ (.slice none 0 0),28),(w.heap.size,xCs t (.slice A L c),28)] w1 by rw [← hW]; exact hG)
 clear hG hW
 have d1:w1.cell? ⟨w.heap.size,1,none⟩ = some (.slice A L c):=(G1.out.cell (p:=(w.heap.size,xCs t (.slice A L c),28)) (by simp)).1 1
 have hX0:w.heap.size + 2 < w1.heap.size:=G1.out.bo.plt (p:=(w.heap.size + 2,xCs t (.slice none 0 0),28)) (by simp)
 go_wp2
 go_loopw [12] (fun i wr=>∃ (k:Nat) (lk:List (Scene × Value)) (vk:Value),k ≤ L ∧ i = .int .i64 k ∧ Hid (lk.length = k ∧ lk.map (·.1) = (l.take k).map (·.1)) ∧ Hid (BI w lk vk [(w.heap.size + 2,xCs t vk,28),(w.heap.size + 1,xCs ⟨#[]⟩ (.slice none 0 0),28)] wr)) (fun i _=>L - (intOf i).toNat)
 case atStart=>exact ⟨0,[],.slice none 0 0,Nat.zero_le _,rfl,⟨rfl,rfl⟩,G1.out.less (by simp)⟩
 case round=>
  clear G1 d1 hX0
  obtain ⟨k,lk,vk,hk,rfl,HK,HG⟩:=hrel
  by_cases hlt:k < L
  ·have hk2:k < l.length:=by rw [HL.out]; exact hlt
   have hS:=HT.out.below HG.out.bo.bel
   obtain ⟨b,off,rfl,hfb,a0,a1,a2,a3,a4⟩:=scAt hS.sli k hk2
   have hltb:b < wr.heap.size:=hS.lt b hfb
   obtain ⟨A4,n4,c4,h4⟩:=HO.out _ (List.getElem_mem hk2)
   have hpk:=hS.par _ (List.getElem_mem hk2)
   have hpl:=HPL.out _ (List.getElem_mem hk2)
   have htk:=List.take_succ_eq_append_getElem hk2
   have HSN:=Lib.hid (show (l.take (k + 1)).map (·.1) = (l.take k).map (·.1) ++ [(l[k]).1] by rw [htk,List.map_append]; rfl)
   rw [h4] at a4 hpk
   clear h4 htk
   have hpX:w.heap.size + 2 < wr.heap.size:=HG.out.bo.plt (p:=(w.heap.size + 2,xCs t vk,28)) (by simp)
   have HB1:=Lib.hid (HG.out.new #[.string (l[k]).1.no,.int .i64 (l[k]).1.place,.string (l[k]).1.set,.int .i64 (l[k]).1.time,.slice A4 n4 c4] 46)
   have hpk5:=hpk.alloc (.cells #[.string (l[k]).1.no,.int .i64 (l[k]).1.place,.string (l[k]).1.set,.int .i64 (l[k]).1.time,.slice A4 n4 c4] 46) (fun q hq=>hS.lt q hq)
   generalize (l[k]).1 = x at *
   clear hk2
   go_upto_region 5 with (fail)
   generalize hW:wr.alloc (.cells #[.string x.no,.int .i64 x.place,.string x.set,.int .i64 x.time,.slice A4 n4 c4] 46) = w5 at *
   have d4:w5.cell? ⟨wr.heap.size,4,none⟩ = some (.slice A4 n4 c4):=(HB1.out.cell (p:=(wr.heap.size,#[.string x.no,.int .i64 x.place,.string x.set,.int .i64 x.time,.slice A4 n4 c4],46)) (by simp)).1 4
   have HCL:=Lib.hid (clonePara_c x.paras (.slice A4 n4 c4) w5 hpk5 hpl)
   have hw5:wr.heap.size < w5.heap.size:=HB1.out.bo.plt (p:=(wr.heap.size,#[.string x.no,.int .i64 x.place,.string x.set,.int .i64 x.time,.slice A4 n4 c4],46)) (by simp)
   clear hW a0 a1 a2 a3 a4 hS hpk hpk5 HG
   go_wp2_with fail
   refine HCL.out.mono ?_
   rintro e w6 ⟨vn,rfl,hown6,hb6⟩
   have hz6:=hb6.size
   have hB6:=HB1.out.below hb6
   have f4:w6.frozen? ⟨wr.heap.size,4,none⟩ = false:=(hB6.cell (p:=(wr.heap.size,#[.string x.no,.int .i64 x.place,.string x.set,.int .i64 x.time,.slice A4 n4 c4],46)) (by simp)).2 4
   have e4:w6.cell? ⟨wr.heap.size,4,none⟩ = some (.slice A4 n4 c4):=(hB6.cell (p:=(wr.heap.size,#[.string x.no,.int .i64 x.place,.string x.set,.int .i64 x.time,.slice A4 n4 c4],46)) (by simp)).1 4
   have hdX:∀ p ∈ [(w.heap.size + 2,xCs t vk,28),(w.heap.size + 1,xCs ⟨#[]⟩ (.slice none 0 0),28)],p.1 ≠ wr.heap.size:=fun p hp=>by
    simp only [List.mem_cons,List.not_mem_nil,or_false] at hp
    rcases hp with rfl | rfl <;> (dsimp only; omega)
   have HU7:=Lib.hid (innSet (i:=4) (z:=vn) (HB1.out.fresh hz6 (hown6.sliF (enc:=Para.cells) (hn:=fun _=>rfl) (fun g e=>hown6.block g e))))
   have HB7:=Lib.hid (hB6.set (i:=4) vn hdX)
   obtain ⟨A6,c6,hv6,_,_⟩:=(hown6.sliF (enc:=Para.cells) (hn:=fun _=>rfl) (F:=fun _=>True) (fun _ _=>trivial)).form
   subst hv6
   clear hB6 hdX hown6 hb6 HCL HB1 d4
   go_upto_region 6 with (fail)
   clear e4 f4
   generalize w6.setCell ⟨wr.heap.size,4,none⟩ (.slice A6 x.paras.length c6) = w7 at *
   obtain ⟨gs,_⟩:=HB7.out.cell (p:=(wr.heap.size,(#[.string x.no,.int .i64 x.place,.string x.set,.int .i64 x.time,.slice A4 n4 c4]:Array Value).setIfInBounds 4 (.slice A6 x.paras.length c6),46)) (by simp)
   have s0:w7.cell? ⟨wr.heap.size,0,none⟩ = some (.string x.no):=gs 0
   have s1:w7.cell? ⟨wr.heap.size,1,none⟩ = some (.int .i64 x.place):=gs 1
   have s2:w7.cell? ⟨wr.heap.size,2,none⟩ = some (.string x.set):=gs 2
   have s3:w7.cell? ⟨wr.heap.size,3,none⟩ = some (.int .i64 x.time):=gs 3
   have s4:w7.cell? ⟨wr.heap.size,4,none⟩ = some (.slice A6 x.paras.length c6):=gs 4
   have x1:w7.cell? ⟨w.heap.size + 2,1,none⟩ = some vk:=(HB7.out.cell (p:=(w.heap.size + 2,xCs t vk,28)) (by simp)).1 1
   have HLK:=Lib.hid HK.out.1
   have hz7:=HB7.out.bo.size
   clear gs
   go_wp2_with (at_builtin; (refine wpList_pushB (R:=svR) rfl _ _ _ rfl w.heap.size w.heap.size 46 i0 _ 72 Tryz.underlying26 hi0 hz0 hz1 hz2 rfl (by decide) _ vk lk rfl (HB7.out.bo.own.alloc _) ((x,.slice A6 x.paras.length c6):Scene × Value) _ rfl (oneC rfl) w7.heap.size _ _ (heap_alloc_new w7 _) rfl (by rw [HLK.out]; simp [maxLen]; omega) (by rw [HLK.out]; omega) (by simp; omega) ?_); rw [HLK.out]; intro g cap w8 hown8 hg8 hat8 hlt8; have G8:=BI.more (HB7.out.alloc _) hown8 hg8 rfl hat8 (((HU7.out.alloc _ (fun q hq=>hq.2.1))).more fun q hq=>⟨hq.1,by have:=hq.2.1; simp; omega,hq.2.2⟩); have x8:w8.cell? ⟨w.heap.size + 2,1,none⟩ = some vk:=(G8.cell (p:=(w.heap.size + 2,xCs t vk,28)) (by simp)).1 1; have f8:w8.frozen? ⟨w.heap.size + 2,1,none⟩ = false:=(G8.cell (p:=(w.heap.size + 2,xCs t vk,28)) (by simp)).2 1)
   go_roundw
   case rel=>exact ⟨k + 1,lk ++ [(x,.slice A6 x.paras.length c6)],_,by omega,intNum,⟨by rw [List.length_append,HK.out.1]; rfl,by rw [HSN.out,List.map_append,HK.out.2]; rfl⟩,Lib.hid ((G8.less (Q:=[(w.heap.size + 2,xCs t vk,28),(w.heap.size + 1,xCs ⟨#[]⟩ (.slice none 0 0),28)]) (by simp)).set (i:=1) _ (by simp))⟩
   case measure=>simp [intOf]; omega
  ·obtain ⟨gx,_⟩:=HG.out.cell (p:=(w.heap.size + 2,xCs t vk,28)) (by simp)
   obtain ⟨gy,fy⟩:=HG.out.cell (p:=(w.heap.size + 1,xCs ⟨#[]⟩ (.slice none 0 0),28)) (by simp)
   have x0:wr.cell? ⟨w.heap.size + 2,0,none⟩ = some (.string t):=gx 0
   have x1:wr.cell? ⟨w.heap.size + 2,1,none⟩ = some vk:=gx 1
   have y0:wr.cell? ⟨w.heap.size + 1,0,none⟩ = some (.string ⟨#[]⟩):=gy 0
   have y1:wr.cell? ⟨w.heap.size + 1,1,none⟩ = some (.slice none 0 0):=gy 1
   have f0:wr.frozen? ⟨w.heap.size + 1,0,none⟩ = false:=fy 0
   have f1:wr.frozen? ⟨w.heap.size + 1,1,none⟩ = false:=fy 1
   have HF:=Lib.hid (((HG.out.less (Q:=[(w.heap.size + 1,xCs ⟨#[]⟩ (.slice none 0 0),28)]) (by simp)).set (i:=0) (.string t) (by simp)).set (i:=1) vk (by simp))
   have hlk:=HK.out
   rw [List.take_of_length_le (by rw [HL.out]; omega)] at hlk
   have HKK:=Lib.hid hlk
   have hv:=(HG.out.bo.own.sliF (enc:=fun x:Scene × Value=>x.1.cells x.2) (hn:=fun _=>rfl) (F:=fun _=>True) (fun _ _=>trivial)).form
   obtain ⟨A6,c6,hv6,_,_⟩:=hv
   subst hv6
   clear gx gy fy HG HK hlk
   go_wp2
   refine ⟨rfl,.agg (xCs t (.slice A6 lk.length c6)),(by rw [results_cell1 rfl]; go_simp; rfl),?_⟩
   exact ⟨lk,_,rfl,HKK.out.2,HF.out.less (by simp)⟩
end
end Go.Proofs.YtaoobkgepcikiaaGreatDoor
