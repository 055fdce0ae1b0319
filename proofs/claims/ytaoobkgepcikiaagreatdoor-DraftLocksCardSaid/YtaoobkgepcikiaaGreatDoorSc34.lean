/- Texts packed: RbX. -/
import Derived.Test.YtaoobkgepcikiaaGreatDoorSc31
import Derived.Test.YtaoobkgepcikiaaGreatDoorSc10
import Derived.Test.YtaoobkgepcikiaaGreatDoorSc01
namespace Go.Proofs.YtaoobkgepcikiaaGreatDoor
set_option linter.unusedVariables false
open Go.RowKit Go.Sort
def RbsP (x:Scene) (w:World) (e:Ending) (w':World):Prop:=∃ (l:List BkT) (v:Value),e = .returned v ∧ l.map (·.1) = blocksS x ∧ RbN w l v [] w'
theorem put_full (b:Blk) (kd at_:Nat) (ls:List ByteArray):b.put kd at_ ls = { kind:=b.kind,lines:=b.lines ++ ls.map (indS at_),kinds:=b.kinds ++ List.replicate ls.length kd,name:=b.name }:=by
 unfold Blk.put
 rw [List.map_const']
theorem LnOk.words {x:Scene} (h:LnOk x) {p:Para} (hp:p ∈ x.paras):wordsA p.text.data.toList [] ≠ []:=by
 have h1:=paraE_sz (parasE_ok x.paras 0 h.ok.2.2.2.2 p hp)
 exact plain_words h1.2.2.1 h1.1
set_option maxRecDepth 100000 in
set_option maxHeartbeats 16000000 in
theorem blocksOf_c {F:Nat → Prop} (x:Scene) (v:Value) (w:World) (hv:Sli paraR w F x.paras v) (hF:∀ b,F b → b < w.heap.size) (hok:LnOk x) (hsp:SpLaid w) :
  Calls Tryz.prog 59 #[.agg #[.string x.no,.int .i64 x.place,.string x.set,.int .i64 x.time,v]] w (RbsP x w):=by
 obtain ⟨i0,hi0,hz0,hz1,hz2⟩:=info_parts (show (Tryz.prog.info? 162).map (fun i=>(i.zero,i.size,i.bytes)) = some (some (.agg #[.int .i64 0,.slice none 0 0,.slice none 0 0]),3,56) by kernel_rfl)
 obtain ⟨i1,hi1,hy0,hy1,hy2⟩:=info_parts (show (Tryz.prog.info? 9).map (fun i=>(i.zero,i.size,i.bytes)) = some (some (.string ⟨#[]⟩),1,16) by kernel_rfl)
 obtain ⟨i2,hi2,hx0,hx1,hx2⟩:=info_parts (show (Tryz.prog.info? 4).map (fun i=>(i.zero,i.size,i.bytes)) = some (some (.bool false),1,1) by kernel_rfl)
 obtain ⟨A,c,rfl,hlc,hcm⟩:=hv.form
 obtain ⟨L,hL⟩:∃ L,x.paras.length = L:=⟨_,rfl⟩
 have HL:=Lib.hid hL
 rw [hL] at hv hlc ⊢
 have HV:=Lib.hid hv
 have HF:=Lib.hid hF
 have HOK:=Lib.hid hok
 have HSP:=Lib.hid (fun (W:World) (hb:Below w.heap.size w W)=>sp_below hsp hb (Nat.le_refl _))
 have hpn:L ≤ 4000:=by rw [← hL]; exact hok.pn
 have hso:=hok.sizes
 have hpl:=hok.ok.2.1
 have hti:=hok.ok.2.2.1
 have HHC:=Lib.hid (fun (W:World)=>HeadingOf_c x A L c W (by omega) (by omega) (by omega) (by omega))
 have HNH:=Lib.hid (fun (W:World) (hb:Below w.heap.size w W)=>WrapOf_c (headS x) 60 W (by have:=hok.head.1; omega) (by omega) (by omega) hok.head.2 (HSP.out W hb))
 clear hL hv hF hok hso hpl hti hsp
 go_enter Tryz.func59,Tryz.ntmps59
 go_upto_region 1 with (fail)
 have hB1:=(Below.refl w.heap.size w).alloc (Nat.le_refl _) (.cells #[.string x.no,.int .i64 x.place,.string x.set,.int .i64 x.time,.slice A L c] 46)
 have hz1':w.heap.size < (w.alloc (.cells #[.string x.no,.int .i64 x.place,.string x.set,.int .i64 x.time,.slice A L c] 46)).heap.size:=by simp
 generalize hW:w.alloc (.cells #[.string x.no,.int .i64 x.place,.string x.set,.int .i64 x.time,.slice A L c] 46) = w1 at *
 obtain ⟨y,_⟩:=str_cells (show w1.heap[w.heap.size]? = some (.cells #[.string x.no,.int .i64 x.place,.string x.set,.int .i64 x.time,.slice A L c] 46 (0,0)) from by rw [← hW]; exact heap_alloc_new w _)
 have y0:w1.cell? ⟨w.heap.size,0,none⟩ = some (.string x.no):=y 0
 have y1:w1.cell? ⟨w.heap.size,1,none⟩ = some (.int .i64 x.place):=y 1
 have y2:w1.cell? ⟨w.heap.size,2,none⟩ = some (.string x.set):=y 2
 have y3:w1.cell? ⟨w.heap.size,3,none⟩ = some (.int .i64 x.time):=y 3
 have y4:w1.cell? ⟨w.heap.size,4,none⟩ = some (.slice A L c):=y 4
 have HB1:=Lib.hid hB1
 clear y hW hB1
 go_wp2_with fail
 refine (HHC.out _).mono ?_
 rintro e w2 ⟨rfl,hb2⟩
 have hB2:=HB1.out.trans (hb2.mono HB1.out.size)
 go_wp2_with fail
 refine (HNH.out _ hB2).mono ?_
 rintro e w3 ⟨v1,rfl,hb3,ho1⟩
 obtain ⟨A1,n1,c1,rfl⟩:=own_form ho1
 have HN0:=Lib.hid (RbN.first (b:=blkWrap 0 (headS x)) (v2:=.slice none 0 0) hB2 hb3 (Own.vals ho1) Own.nil_ Dis.nil_)
 have Y4:=Lib.hid (show (w3.alloc (.cells #[.int .i64 0,.slice A1 n1 c1,.slice none 0 0] 162)).cell? ⟨w.heap.size,4,none⟩ = some (.slice A L c) from
  (World.cell?_alloc_lt w3 _ ⟨w.heap.size,4,none⟩ (by have:=hb2.size; have:=hb3.size; show w.heap.size < _; omega)).trans ((hb3.cell (p:=⟨w.heap.size,4,none⟩) (by have:=hb2.size; show w.heap.size < _; omega)).trans ((hb2.cell (p:=⟨w.heap.size,4,none⟩) hz1').trans y4)))
 clear hb2 hb3 ho1 hB2 y0 y1 y2 y3 y4 HHC HNH HB1
 go_upto_region 2 with (fail)
 have HN1:=Lib.hid (show RbN w [(blkWrap 0 (headS x),Value.slice A1 n1 c1,Value.slice none 0 0)] (.slice (some ⟨w3.heap.size,0,none⟩) 1 1) [] (w3.alloc (.cells #[.int .i64 0,.slice A1 n1 c1,.slice none 0 0] 162)) from HN0.out)
 have y4:=Y4.out
 clear HN0 Y4
 generalize w3.alloc (.cells #[.int .i64 0,.slice A1 n1 c1,.slice none 0 0] 162) = w4 at *
 generalize w3.heap.size = G at *
 go_wp2
 go_loopw [3,16] (fun v i wr=>∃ (k:Nat) (l:List BkT),k ≤ L ∧ i = .int .i64 k ∧ Hid (l.map (·.1) = blkN x k) ∧ Hid (RbN w l v [] wr)) (fun _ i _=>L - (intOf i).toNat)
 case atStart=>exact ⟨0,_,Nat.zero_le _,rfl,Lib.hid rfl,HN1.out⟩
 case round=>
  clear HN1 y4
  obtain ⟨k,l,hk,rfl,HE,HN⟩:=hrel
  have hbz:=HN.out.bo.size
  by_cases hlt:k < L
  ·have hkl:k < x.paras.length:=by rw [HL.out]; exact hlt
   obtain ⟨b,off,rfl,hfb,p0,p1⟩:=paraAt (HV.out.below HN.out.bo.bel HF.out) k hkl
   have hbw:b < wr.heap.size:=by have:=HF.out b hfb; omega
   have hpa:=HOK.out.para (List.getElem_mem hkl)
   have HWD:=Lib.hid (HOK.out.words (List.getElem_mem hkl))
   have HPE:=Lib.hid (parasE_ok x.paras 0 HOK.out.ok.2.2.2.2 _ (List.getElem_mem hkl))
   have HST:=Lib.hid (blkN_step hkl)
   have hbd:=blocks_bd HOK.out k (by omega)
   have hlen:l.length = (blkN x k).length:=by rw [← HE.out,List.length_map]
   have hpos:=blkN_pos x k
   have hll:l.length ≤ 4001:=by rw [hlen]; have:=hbd.1; unfold blkN; omega
   have HBD:=Lib.hid (show ∀ y ∈ l,y.1.lines.length ≤ 100000000 ∧ y.1.kinds.length ≤ 100000000 from fun y hy=>by
    have h:=hbd.2 y.1 (show y.1 ∈ blkN x k by rw [← HE.out]; exact List.mem_map_of_mem hy)
    omega)
   obtain ⟨K,hK⟩:∃ K,l.length = K + 1:=⟨l.length - 1,by omega⟩
   generalize x.paras[k]'hkl = p at *
   obtain ⟨g0,cap,rfl,hg01,hg02⟩:=Own.some_ HN.out.bo.own (by omega:0 < l.length)
   rw [hK] at HN ⊢
   have HKK:=Lib.hid hK
   have N5:=Lib.hid (HN.out.new #[.int .i64 p.kind,.string p.text] 78)
   have HPA:=Lib.hid hpa
   have q1:(0:Int) ≤ K:=by omega
   have q2:IntKind.i64.wrap ((K:Int) + 1 - 1) = K:=by rw [show (K:Int) + 1 - 1 = K by omega]; exact IntWalk.i64_in _ (by omega)
   have q3:(K:Int) < K + 1:=by omega
   have q4:IntKind.i64.wrap (K:Int) = K:=IntWalk.i64_in _ (by omega)
   clear hkl hpos hlen hbd hpa hK
   go_upto_region 6 with (fail)
   clear q1 q2 q3 q4
   generalize hW:wr.alloc (.cells #[.int .i64 p.kind,.string p.text] 78) = w5 at *
   obtain ⟨gx,_⟩:=N5.out.cell (p:=(wr.heap.size,#[.int .i64 p.kind,.string p.text],78)) (by simp)
   have d0:w5.cell? ⟨wr.heap.size,0,none⟩ = some (.int .i64 p.kind):=gx 0
   have d1:w5.cell? ⟨wr.heap.size,1,none⟩ = some (.string p.text):=gx 1
   clear gx hW p0 p1 HN
   generalize wr.heap.size = X at *
   have h5:=HPA.out.2.2.2
   have h1:=HPA.out.2.2.1
   have htz:=HPA.out.1
   have hz6:=N5.out.bo.size
   have N6:=Lib.hid (N5.out.less (Q:=[]) (by simp))
   have HSW:=Lib.hid (fun (W:World) (hb:Below w5.heap.size w5 W)=>HSP.out W (N5.out.bo.bel.trans (hb.mono hz6)))
   have HNX:=Lib.hid (fun (l':List BkT) (h:l'.map (·.1) = blkPara (l.map (·.1)) p)=>show l'.map (·.1) = blkN x (k + 1) by rw [HST.out,← HE.out]; exact h)
   rcases (by omega:p.kind = 1 ∨ p.kind = 2 ∨ p.kind = 3 ∨ p.kind = 4 ∨ p.kind = 5) with hp | hp | hp | hp | hp
   ·have HX:=Lib.hid (fun (u1 u2:Value)=>HNX.out (l ++ [(blkWrap 1 p.text,u1,u2)]) (by rw [para_act hp,List.map_append]; rfl))
    rw [hp] at d0
    clear hp
    go_wp2_with fail
    refine (WrapOf_c p.text 60 w5 (by omega) (by omega) (by omega) HPA.out.2.1 (HSW.out w5 (Below.refl _ _))).mono ?_
    rintro e w7 ⟨v7,rfl,hb7,ho7⟩
    obtain ⟨A7,n7,c7,rfl⟩:=own_form ho7
    have hz7:=hb7.size
    have O7:=Lib.hid (((N6.out.below hb7).alloc (.cells (rbCs (blkWrap 1 p.text,Value.slice A7 n7 c7,Value.slice none 0 0)).toArray 162)).bo.own)
    have HP:=Lib.hid (fun (wy:World) (v':Value) (g:Nat) (o:Obj)=>RbN.snoc (wy:=wy) (v':=v') (g:=g) (o:=o) N6.out hb7 (b:=blkWrap 1 p.text) (v2:=.slice none 0 0) (Own.vals ho7) Own.nil_ Dis.nil_)
    clear hb7 ho7 d0 d1
    go_wp2_with (at_builtin; (refine wpList_pushB (R:=rbR) rfl _ _ _ rfl w.heap.size w.heap.size 162 i0 _ 56 Tryz.underlying109 hi0 hz0 hz1 hz2 rfl (by decide) _ (.slice (some ⟨g0,0,none⟩) (K + 1) cap) l rfl O7.out (blkWrap 1 p.text,Value.slice A7 n7 c7,Value.slice none 0 0) _ rfl (by intro u hu; simp [rbCs] at hu; rcases hu with rfl | rfl | rfl <;> rfl) w7.heap.size _ _ (heap_alloc_new w7 _) rfl (by unfold maxLen; omega) (by omega) (by simp; omega) ?_); intro g cap8 w8 hown8 hg8 hat8 hlt8)
    go_roundw
    case rel=>exact ⟨k + 1,_,by omega,intNum,HX.out _ _,HP.out _ _ _ _ hown8 hg8 rfl hat8⟩
    case measure=>simp [intOf]; omega
   ·have HX:=Lib.hid (fun (u1 u2:Value)=>HNX.out (l ++ [(blkGroup p.text,u1,u2)]) (by rw [para_cue hp,List.map_append]; rfl))
    rw [hp] at d0
    clear hp
    have hbA:=(Below.refl w5.heap.size w5).alloc (Nat.le_refl _) (.cells #[.string p.text] 9)
    have hSA:=(Own.lit1 w5 9 p.text).sliF (F:=fun q=>q < (w5.alloc (.cells #[.string p.text] 9)).heap.size) (enc:=fun x:ByteArray=>[.string x]) (hn:=fun _=>rfl) (fun g hg=>((Own.lit1 w5 9 p.text).block g hg).2)
    have HIN:=Lib.hid (indented_c 20 [p.text] (.slice (some ⟨w5.heap.size,0,none⟩) 1 1) (w5.alloc (.cells #[.string p.text] 9)) hSA (fun _ h=>h) (by decide) (by simp) (fun y hy=>by rw [List.mem_singleton.1 hy]; omega))
    have HBA:=Lib.hid hbA
    clear hbA hSA
    go_wp2_with fail
    refine HIN.out.mono ?_
    rintro e w7 ⟨v7,rfl,hb7,ho7⟩
    obtain ⟨A7,n7,c7,rfl⟩:=own_form ho7
    have hz7:=hb7.size
    have hbB:=HBA.out.trans (hb7.mono HBA.out.size)
    have hbC:=hbB.alloc hbB.size (.cells #[.bool false] 4)
    have hzA:=HBA.out.size
    have O7:=Lib.hid (((N6.out.below hbC).alloc (.cells (rbCs (blkGroup p.text,Value.slice A7 n7 c7,Value.slice (some ⟨w7.heap.size,0,none⟩) 1 1)).toArray 162)).bo.own)
    have ho8:Own valR (w7.alloc (.cells #[.bool false] 4)) w5.heap.size w5.heap.size 4 ((blkGroup p.text).kinds.map fun k:Nat=>Value.bool (decide (k = 2))) (.slice (some ⟨w7.heap.size,0,none⟩) 1 1):=Own.at1 (enc:=fun v:Value=>[v]) (hn:=fun _=>rfl) (x:=Value.bool false) (heap_alloc_new w7 _) (by omega)
    have HP:=Lib.hid (fun (wy:World) (v':Value) (g:Nat) (o:Obj)=>RbN.snoc (wy:=wy) (v':=v') (g:=g) (o:=o) N6.out hbC (b:=blkGroup p.text) (Own.less (enc:=fun v:Value=>[v]) (hn:=fun _=>rfl) (Own.vals ho7 |>.alloc (.cells #[.bool false] 4)) hzA) ho8 (fun g h1 h2=>by
     have h3:=(ho7.block g h1).2
     have h4:w7.heap.size = g:=by simpa [Value.ownBlock] using h2
     omega))
    have HNW:=Lib.hid (show ((w7.alloc (.cells #[.bool false] 4)).alloc (.cells (rbCs (blkGroup p.text,Value.slice A7 n7 c7,Value.slice (some ⟨w7.heap.size,0,none⟩) 1 1)).toArray 162)).heap[w7.heap.size + 1]? = some (.cells (rbCs (blkGroup p.text,Value.slice A7 n7 c7,Value.slice (some ⟨w7.heap.size,0,none⟩) 1 1)).toArray 162 (0,0)) by
     have h:=heap_alloc_new (w7.alloc (.cells #[.bool false] 4)) (.cells (rbCs (blkGroup p.text,Value.slice A7 n7 c7,Value.slice (some ⟨w7.heap.size,0,none⟩) 1 1)).toArray 162)
     rw [World.size_alloc] at h
     exact h)
    clear hb7 ho7 d0 d1 ho8 hbB hbC HBA
    go_wp2_with (at_builtin; (refine wpList_pushB (R:=rbR) rfl _ _ _ rfl w.heap.size w.heap.size 162 i0 _ 56 Tryz.underlying109 hi0 hz0 hz1 hz2 rfl (by decide) _ (.slice (some ⟨g0,0,none⟩) (K + 1) cap) l rfl O7.out (blkGroup p.text,Value.slice A7 n7 c7,Value.slice (some ⟨w7.heap.size,0,none⟩) 1 1) _ rfl (by intro u hu; simp [rbCs] at hu; rcases hu with rfl | rfl | rfl <;> rfl) (w7.heap.size + 1) _ _ HNW.out rfl (by unfold maxLen; omega) (by omega) (by simp; omega) ?_); intro g cap8 w8 hown8 hg8 hat8 hlt8)
    go_roundw
    case rel=>exact ⟨k + 1,_,by omega,intNum,HX.out _ _,HP.out _ _ _ _ hown8 hg8 rfl hat8⟩
    case measure=>simp [intOf]; omega
   ·have HPD:=Lib.hid hp
    have hps:=par_sz p.text
    have e1:(⟨#[40]⟩:ByteArray).size = 1:=rfl
    have e2:(⟨#[41]⟩:ByteArray).size = 1:=rfl
    have e3:((⟨#[40]⟩:ByteArray) ++ p.text).size = 1 + p.text.size:=by rw [ByteArray.size_append]; rfl
    have hx1:¬ 9223372036854775807 < (⟨#[40]⟩:ByteArray).size + p.text.size:=by omega
    have hx2:¬ 9223372036854775807 < 1 + p.text.size:=by omega
    have hx3:¬ 9223372036854775807 < ((⟨#[40]⟩:ByteArray) ++ p.text).size + (⟨#[41]⟩:ByteArray).size:=by omega
    have hx4:¬ 9223372036854775807 < ((⟨#[40]⟩:ByteArray) ++ p.text).size + 1:=by omega
    have hx5:¬ 9223372036854775807 < 1 + p.text.size + 1:=by omega
    have hwl:=wrapT_len (⟨#[40]⟩ ++ p.text ++ ⟨#[41]⟩) (wd:=30) (by decide)
    have HWDT:=Lib.hid (wrapT_wd (⟨#[40]⟩ ++ p.text ++ ⟨#[41]⟩) (wd:=30) (by decide))
    have HWR:=Lib.hid (WrapOf_c ((⟨#[40]⟩:ByteArray) ++ p.text ++ (⟨#[41]⟩:ByteArray)) 30 w5 (by omega) (by omega) (by omega) (par_pr HPA.out.2.1) (HSW.out w5 (Below.refl _ _)))
    have hlp:=wrapT_pos (s:=⟨#[40]⟩ ++ p.text ++ ⟨#[41]⟩) (wd:=30) (by decide) (par_words p.text)
    rw [hps] at hwl
    clear e1 e2 e3 hps
    generalize hLS:wrapT (⟨#[40]⟩ ++ p.text ++ ⟨#[41]⟩) 30 = LS at *
    have HLS:=Lib.hid hLS
    clear hLS
    go_wp2_with fail
    refine HWR.out.mono ?_
    rintro e w7 ⟨v7,rfl,hb7,ho7⟩
    obtain ⟨A7,n7,c7,rfl⟩:=own_form ho7
    have HIN:=Lib.hid (indented_c 15 LS (.slice A7 n7 c7) w7 (ho7.sliF (F:=fun q=>q < w7.heap.size) (enc:=fun x:ByteArray=>[.string x]) (hn:=fun _=>rfl) (fun g hg=>(ho7.block g hg).2)) (fun _ h=>h) (by decide) (by omega) (fun x hx=>by have:=HWDT.out x hx; omega))
    have N7:=Lib.hid (N5.out.below hb7)
    have hbA:=hb7
    clear hb7 ho7 HWR d0 d1 hx1 hx2 hx3 hx4 hx5
    go_wp2_with fail
    refine HIN.out.mono ?_
    rintro e w8 ⟨v8,rfl,hb8,ho8⟩
    obtain ⟨A8,n8,c8,rfl⟩:=own_form ho8
    have N8:=Lib.hid (N7.out.below hb8)
    have hbB:=hbA.trans (hb8.mono hbA.size)
    obtain ⟨gx,_⟩:=N8.out.cell (p:=(X,#[.int .i64 p.kind,.string p.text],78)) (by simp)
    have d0:w8.cell? ⟨X,0,none⟩ = some (.int .i64 p.kind):=gx 0
    have d1:w8.cell? ⟨X,1,none⟩ = some (.string p.text):=gx 1
    clear gx HIN N7 hbA hb8
    have hln:(LS.map (indS 15)).length = n8:=by
     rcases ho8.form with ⟨h,h2⟩ | ⟨g,cp,h,_⟩
     ·injection h with _ h _; rw [h2,h]; rfl
     ·injection h with _ h _; exact h.symm
    have hlm:LS.length = n8:=by rw [← hln,List.length_map]
    have hnp:0 < n8:=by omega
    have hnm:n8 ≤ 3000:=by omega
    have HLN:=Lib.hid hln
    have HLM:=Lib.hid hlm
    have HKL2:=Lib.hid (show K < l.length by rw [HKK.out]; omega)
    have hbb:=HBD.out _ (List.getElem_mem HKL2.out)
    have HX:=Lib.hid (fun (u1 u2:Value)=>HNX.out (l.set K ((l[K]'HKL2.out).1.put 1 15 LS,u1,u2)) (by
     rw [para_aside hp (K:=K) (by rw [List.length_map]; exact HKK.out),List.map_set,List.getElem_map,HLS.out]))
    obtain ⟨⟨b0,u1,u2⟩,hy0⟩:∃ y,(l[K]'HKL2.out) = y:=⟨_,rfl⟩
    have HSS:=Lib.hid (show l = l.set K (b0,u1,u2) by rw [← hy0,List.set_getElem_self])
    have hgy:l[K]? = some (b0,u1,u2):=by rw [List.getElem?_eq_getElem HKL2.out,hy0]
    rw [hy0] at hbb HX
    dsimp only at hbb HX
    have hr1:=N8.out.row false K _ hgy
    have hr2:=N8.out.row true K _ hgy
    have ho1:Own strR w8 w.heap.size w.heap.size 9 b0.lines u1:=Own.strs hr1.1
    have ho2:Own valR w8 w.heap.size w.heap.size 4 (b0.kinds.map fun k:Nat=>Value.bool (decide (k = 2))) u2:=hr2.1
    have hne1:∀ g,u1.ownBlock = some g → (Value.slice (some ⟨g0,0,none⟩) (K + 1) cap).ownBlock ≠ some g:=fun g hg=>(hr1.2 g hg).1
    obtain ⟨A1,n1,c1,rfl⟩:=own_form ho1
    obtain ⟨A2,n2,c2,rfl⟩:=own_form ho2
    obtain ⟨⟨k1,k2⟩,_⟩:=RbN.cells HSS.out HKL2.out N8.out
    have k1':w8.cell? ⟨g0,K * 3 + 1,none⟩ = some (.slice A1 n1 c1):=k1
    have hgA:=(N8.out.bo.own.block g0 rfl).2
    have HO1:=Lib.hid ho1
    have HNE:=Lib.hid hne1
    have HGA:=Lib.hid hgA
    have HK2:=Lib.hid k2
    have HK1:=Lib.hid k1'
    have HSL:=Lib.hid (ho8.sliF (F:=fun _=>True) (enc:=fun x:ByteArray=>[.string x]) (hn:=fun _=>rfl) (fun _ _=>trivial))
    have HBBD:=Lib.hid hbb
    have hbz1:=hbb.1
    have hbz2:=hbb.2
    have hbase:w.heap.size ≤ w8.heap.size:=N8.out.bo.size
    clear hln hlm hy0 hgy hr1 hr2 ho1 ho2 hne1 k1 k2 hgA hbb ho8
    rw [hp] at d0
    go_upto_region 11 with (at_builtin; (refine wpList_appL (enc:=fun x:ByteArray=>[.string x]) (hn:=fun _=>rfl) rfl _ _ _ rfl w.heap.size w.heap.size 9 i1 _ 16 Tryz.underlying31 hi1 hy0 hy1 hy2 rfl (by decide) (fun x u hu=>by simp at hu; subst hu; rfl) _ (.slice A1 n1 c1) b0.lines rfl HO1.out (LS.map (indS 15)) A8 n8 c8 rfl HSL.out HLN.out (by omega) (by unfold maxLen; omega) (by omega) (by omega) ?_); intro g cap9 wB hownB hgB hatB hltB; have hkB:=hgB.block g0 HGA.out (fun e=>HNE.out g0 e.symm rfl); have fB:wB.frozen? ⟨g0,K * 3 + 1,none⟩ = false:=(World.frozen?_of_block hkB).trans HK2.out; have cB:wB.cell? ⟨g0,K * 3 + 1,none⟩ = some (.slice A1 n1 c1):=(World.cell?_of_block hkB).trans HK1.out)
    have NB:=Lib.hid (RbN.line (y:=(b0,Value.slice A1 n1 c1,Value.slice A2 n2 c2)) (L':=b0.lines ++ LS.map (indS 15)) (HSS.out ▸ N8.out) HKL2.out (Own.vals hownB) hgB rfl (hatB.imp id fun h=>Nat.le_of_eq h.symm))
    dsimp only at NB
    clear hownB hgB hatB hltB hkB fB cB k1' HK1 HK2 HO1 HSL HNE HGA N8
    generalize wB.setCell ⟨g0,K * 3 + 1,none⟩ (.slice (some ⟨g,0,none⟩) (b0.lines.length + n8) cap9) = wC at *
    generalize Value.slice (some ⟨g,0,none⟩) (b0.lines.length + n8) cap9 = uL at *
    go_wp2
    go_loopw [51] (fun i wr=>∃ (j:Nat) (u:Value),j ≤ n8 ∧ i = .int .i64 j ∧ Hid (RbN w (l.set K ({ kind:=b0.kind,lines:=b0.lines ++ LS.map (indS 15),kinds:=b0.kinds ++ List.replicate j 1,name:=b0.name },uL,u)) (.slice (some ⟨g0,0,none⟩) (K + 1) cap) [(X,#[.int .i64 p.kind,.string p.text],78)] wr)) (fun i _=>n8 - (intOf i).toNat)
    case atStart=>exact ⟨0,_,Nat.zero_le _,rfl,Lib.hid (by rw [List.replicate_zero,List.append_nil]; exact NB.out)⟩
    case round=>
     clear NB
     obtain ⟨j,u,hj,rfl,HG⟩:=hrel
     have hzg:=HG.out.bo.size
     by_cases hlj:j < n8
     ·have hrk:=HG.out.row true K _ (List.getElem?_set_self HKL2.out)
      have ho3:Own valR wr w.heap.size w.heap.size 4 ((b0.kinds ++ List.replicate j 1).map fun k:Nat=>Value.bool (decide (k = 2))) u:=hrk.1
      have hne3:∀ g,u.ownBlock = some g → (Value.slice (some ⟨g0,0,none⟩) (K + 1) cap).ownBlock ≠ some g ∧ X ≠ g:=fun g hg=>⟨(hrk.2 g hg).1,(hrk.2 g hg).2 (X,#[.int .i64 p.kind,.string p.text],78) (by simp)⟩
      obtain ⟨A3,n3,c3,rfl⟩:=own_form ho3
      obtain ⟨_,⟨k3,k4⟩⟩:=RbN.cells rfl HKL2.out HG.out
      have k3':wr.cell? ⟨g0,K * 3 + 2,none⟩ = some (.slice A3 n3 c3):=k3
      have kX:wr.cell? ⟨X,0,none⟩ = some (.int .i64 3):=by
       have h:=(HG.out.cell (p:=(X,#[.int .i64 p.kind,.string p.text],78)) (by simp)).1 0
       rw [← hp]
       exact h
      have hkl3:((b0.kinds ++ List.replicate j 1).map fun k:Nat=>Value.bool (decide (k = 2))).length ≤ 100003000:=by rw [List.length_map,List.length_append,List.length_replicate]; omega
      have HKE:=Lib.hid (show b0.kinds ++ List.replicate (j + 1) 1 = b0.kinds ++ List.replicate j 1 ++ [1] by rw [List.replicate_succ',List.append_assoc])
      have hgA:=(HG.out.bo.own.block g0 rfl).2
      have hXA:=HG.out.bo.plt (p:=(X,#[.int .i64 p.kind,.string p.text],78)) (by simp)
      dsimp only at hXA
      have HO3:=Lib.hid ho3
      have HNE3:=Lib.hid hne3
      have HKF:=Lib.hid k4
      generalize b0.kinds ++ List.replicate j 1 = ks at *
      clear hrk ho3 hne3 k3 k4
      go_upto_region 13 with (fail)
      obtain ⟨ι,ff,hne,hff,hfS⟩:=family (fun W=>W.cell? ⟨g0,K * 3 + 2,none⟩ = some (.slice A3 n3 c3) ∧ W.cell? ⟨X,0,none⟩ = some (.int .i64 3)) wr ⟨k3',kX⟩
      have hneW:Nonempty World:=⟨w⟩
      have s0:=fun p=>(hff p).1
      have s1:=fun p=>(hff p).2
      have HFS:=Lib.hid hfS
      have HC1:=Lib.hid (And.intro k3' kX)
      clear hff hfS k3' kX
      refine wp_region_segs2 [8,9] [] [] [([0,1,2,3,5],[4,6,7],8),([],[],9),([10,11],[],12)] (by kernel_rfl) (by kernel_rfl) (fun _ _ _ dd _ h=>by cases dd <;> exact h) (fun W=>∃ p:ι,W = ff p) (HFS.out _ HC1.out) ?_
      refine wpSegs2_step (by simp only [pick,List.getElem?_cons_succ,List.getElem?_cons_zero]; rfl) (by simp only [pick,List.getElem?_cons_succ,List.getElem?_cons_zero]; rfl) rfl (fun K0 hK0 L0 hL0=>?_)
      repeat (first | go_big_quiet_step (fail) | quiet_step (fail))
      refine wpQuiet_nil (hL0 _ ?_)
      repeat (first | go_big_quiet_step (fail) | quiet_step (fail))
      refine wpQuiet_nil ?_
      go_simp
      have HGA2:=Lib.hid (HG.out.drew.alloc (.cells #[.bool false] 4))
      have HOA2:=Lib.hid (HO3.out.drew.alloc (.cells #[.bool false] 4))
      have HNEW:=Lib.hid (heap_alloc_new wr.drew (.cells #[.bool false] 4))
      have C2:=Lib.hid (show (wr.drew.alloc (.cells #[.bool false] 4)).cell? ⟨g0,K * 3 + 2,none⟩ = some (.slice A3 n3 c3) ∧ (wr.drew.alloc (.cells #[.bool false] 4)).cell? ⟨X,0,none⟩ = some (.int .i64 3) from ⟨(World.cell?_alloc_lt wr.drew _ ⟨g0,K * 3 + 2,none⟩ hgA).trans HC1.out.1,(World.cell?_alloc_lt wr.drew _ ⟨X,0,none⟩ hXA).trans HC1.out.2⟩)
      have hzz:(wr.drew.alloc (.cells #[.bool false] 4)).heap.size = wr.heap.size + 1:=(show (wr.alloc (.cells #[.bool false] 4)).heap.size = wr.heap.size + 1 by simp)
      have hzz2:(wr.alloc (.cells #[.bool false] 4)).drew.heap.size = wr.heap.size + 1:=hzz
      refine hK0 (fun W=>∃ p:ι,W = ff p) _ _ (fun _ h=>h) (HFS.out _ C2.out) ?_
      refine wpSegs2_step (by simp only [pick,List.getElem?_cons_succ,List.getElem?_cons_zero]; rfl) (by simp only [pick,List.getElem?_cons_succ,List.getElem?_cons_zero]; rfl) rfl (fun K1 hK1 L1 hL1=>?_)
      repeat (first | go_big_quiet_step (fail) | quiet_step (fail))
      refine wpQuiet_nil (hL1 _ ?_)
      repeat (first | go_big_quiet_step (fail) | quiet_step (fail))
      refine wpQuiet_nil ?_
      refine oper_push (R:=valR) rfl _ _ _ rfl w.heap.size w.heap.size 4 i2 _ 1 Tryz.underlying112 hi2 hx0 hx1 hx2 rfl (by decide) _ (.slice A3 n3 c3) (ks.map fun k:Nat=>Value.bool (decide (k = 2))) rfl HOA2.out (.bool false) _ rfl (oneC rfl) wr.heap.size _ _ HNEW.out rfl (by unfold maxLen; omega) (by omega) (by omega) ?_
      intro gk capk wk hownk hgk hatk hltk
      have hk8:=hgk.block g0 (by omega) (fun e=>(HNE3.out g0 e.symm).1 rfl)
      have hX8:=hgk.block X (by omega) (fun e=>(HNE3.out X e.symm).2 rfl)
      have fk:wk.frozen? ⟨g0,K * 3 + 2,none⟩ = false:=(World.frozen?_of_block hk8).trans (RbN.cells rfl HKL2.out HGA2.out).2.2
      have ck:wk.cell? ⟨g0,K * 3 + 2,none⟩ = some (.slice A3 n3 c3):=(World.cell?_of_block hk8).trans C2.out.1
      have NK:=Lib.hid (RbN.kind (K':=ks ++ [1]) HGA2.out HKL2.out (by rw [List.map_append]; exact hownk) hgk rfl (hatk.imp id fun h=>by omega))
      dsimp only at NK
      rw [List.length_map] at NK ⊢
      refine hK1 (fun W=>∃ p:ι,W = ff p) _ _ (fun _ h=>h) (HFS.out _ ⟨ck,(World.cell?_of_block hX8).trans C2.out.2⟩) ?_
      clear hownk hgk hatk hltk hk8 hX8 HGA2 HOA2 HNEW C2 HG HO3 HNE3 HKF
      refine wpSegs2_last (by simp only [pick,List.getElem?_cons_succ,List.getElem?_cons_zero]; rfl) (by simp only [pick,List.getElem?_cons_succ,List.getElem?_cons_zero]; rfl) rfl (by rfl) (fun K2 hK2 L2 hL2=>?_)
      repeat (first | go_big_quiet_step (fail) | quiet_step (fail))
      refine wpQuiet_nil (hL2 _ ?_)
      repeat (first | go_big_quiet_step (fail) | quiet_step (fail))
      refine wpQuiet_nil ?_
      go_simp
      refine hK2 _ _ (wpSegs2_end ?_)
      clear s0 s1 fk ck hzz hzz2
      go_wp2
      go_roundw
      case rel=>exact ⟨j + 1,_,by omega,intNum,Lib.hid (by rw [HKE.out]; exact NK.out)⟩
      case measure=>simp [intOf]; omega
     ·have hjn:j = n8:=by omega
      subst hjn
      have HG2:=Lib.hid (HG.out.less (Q:=[]) (by simp))
      have HPF:=Lib.hid (put_full b0 1 15 LS)
      rw [HLM.out] at HPF
      clear HG
      go_wp2
      go_roundw
      case rel=>exact ⟨k + 1,_,by omega,intNum,HX.out uL u,Lib.hid (by rw [HPF.out]; exact HG2.out)⟩
      case measure=>simp [intOf]; omega
   ·have HPD:=Lib.hid hp
    have hps:=par_sz p.text
    have e1:(⟨#[40]⟩:ByteArray).size = 1:=rfl
    have e2:(⟨#[41]⟩:ByteArray).size = 1:=rfl
    have e3:((⟨#[40]⟩:ByteArray) ++ p.text).size = 1 + p.text.size:=by rw [ByteArray.size_append]; rfl
    have hx1:¬ 9223372036854775807 < (⟨#[40]⟩:ByteArray).size + p.text.size:=by omega
    have hx2:¬ 9223372036854775807 < 1 + p.text.size:=by omega
    have hx3:¬ 9223372036854775807 < ((⟨#[40]⟩:ByteArray) ++ p.text).size + (⟨#[41]⟩:ByteArray).size:=by omega
    have hx4:¬ 9223372036854775807 < ((⟨#[40]⟩:ByteArray) ++ p.text).size + 1:=by omega
    have hx5:¬ 9223372036854775807 < 1 + p.text.size + 1:=by omega
    have hwl:=wrapT_len (⟨#[40]⟩ ++ p.text ++ ⟨#[41]⟩) (wd:=30) (by decide)
    have HWDT:=Lib.hid (wrapT_wd (⟨#[40]⟩ ++ p.text ++ ⟨#[41]⟩) (wd:=30) (by decide))
    have HWR:=Lib.hid (WrapOf_c ((⟨#[40]⟩:ByteArray) ++ p.text ++ (⟨#[41]⟩:ByteArray)) 30 w5 (by omega) (by omega) (by omega) (par_pr HPA.out.2.1) (HSW.out w5 (Below.refl _ _)))
    have hlp:=wrapT_pos (s:=⟨#[40]⟩ ++ p.text ++ ⟨#[41]⟩) (wd:=30) (by decide) (par_words p.text)
    rw [hps] at hwl
    clear e1 e2 e3 hps
    generalize hLS:wrapT (⟨#[40]⟩ ++ p.text ++ ⟨#[41]⟩) 30 = LS at *
    have HLS:=Lib.hid hLS
    clear hLS
    go_wp2_with fail
    refine HWR.out.mono ?_
    rintro e w7 ⟨v7,rfl,hb7,ho7⟩
    obtain ⟨A7,n7,c7,rfl⟩:=own_form ho7
    have HIN:=Lib.hid (indented_c 15 LS (.slice A7 n7 c7) w7 (ho7.sliF (F:=fun q=>q < w7.heap.size) (enc:=fun x:ByteArray=>[.string x]) (hn:=fun _=>rfl) (fun g hg=>(ho7.block g hg).2)) (fun _ h=>h) (by decide) (by omega) (fun x hx=>by have:=HWDT.out x hx; omega))
    have N7:=Lib.hid (N5.out.below hb7)
    have hbA:=hb7
    clear hb7 ho7 HWR d0 d1 hx1 hx2 hx3 hx4 hx5
    go_wp2_with fail
    refine HIN.out.mono ?_
    rintro e w8 ⟨v8,rfl,hb8,ho8⟩
    obtain ⟨A8,n8,c8,rfl⟩:=own_form ho8
    have N8:=Lib.hid (N7.out.below hb8)
    have hbB:=hbA.trans (hb8.mono hbA.size)
    obtain ⟨gx,_⟩:=N8.out.cell (p:=(X,#[.int .i64 p.kind,.string p.text],78)) (by simp)
    have d0:w8.cell? ⟨X,0,none⟩ = some (.int .i64 p.kind):=gx 0
    have d1:w8.cell? ⟨X,1,none⟩ = some (.string p.text):=gx 1
    clear gx HIN N7 hbA hb8
    have hwl2:=wrapT_len p.text (wd:=35) (by decide)
    have HWDT2:=Lib.hid (wrapT_wd p.text (wd:=35) (by decide))
    have HWR2:=Lib.hid (WrapOf_c p.text 35 w8 (by omega) (by omega) (by omega) HPA.out.2.1 (HSW.out w8 hbB))
    have hlp2:=wrapT_pos (s:=p.text) (wd:=35) (by decide) HWD.out
    have HBB:=Lib.hid hbB
    clear ho8 hlp hwl HWDT HLS hbB
    generalize hLS:wrapT p.text 35 = LT at *
    have HLS:=Lib.hid hLS
    clear hLS
    rw [hp] at d0
    go_wp2_with fail
    refine HWR2.out.mono ?_
    rintro e w9 ⟨v9,rfl,hb9,ho9⟩
    obtain ⟨A9,n9,c9,rfl⟩:=own_form ho9
    have HIN:=Lib.hid (indented_c 10 LT (.slice A9 n9 c9) w9 (ho9.sliF (F:=fun q=>q < w9.heap.size) (enc:=fun x:ByteArray=>[.string x]) (hn:=fun _=>rfl) (fun g hg=>(ho9.block g hg).2)) (fun _ h=>h) (by decide) (by omega) (fun x hx=>by have:=HWDT2.out x hx; omega))
    have N9:=Lib.hid (N8.out.below hb9)
    clear hb9 ho9 HWR2 d0 d1 HBB N8
    go_wp2_with fail
    refine HIN.out.mono ?_
    rintro e wA ⟨vA,rfl,hbA,hoA⟩
    obtain ⟨AA,nA,cA,rfl⟩:=own_form hoA
    have NA:=Lib.hid (N9.out.below hbA)
    have hozA:=hbA.size
    have hzA:=NA.out.bo.size
    clear HIN N9 hbA
    have hln:(LT.map (indS 10)).length = nA:=by
     rcases hoA.form with ⟨h,h2⟩ | ⟨g,cp,h,_⟩
     ·injection h with _ h _; rw [h2,h]; rfl
     ·injection h with _ h _; exact h.symm
    have hlm:LT.length = nA:=by rw [← hln,List.length_map]
    have hnp:0 < nA:=by omega
    have hnm:nA ≤ 3000:=by omega
    have HLN:=Lib.hid hln
    have HLM:=Lib.hid hlm
    have HKL2:=Lib.hid (show K < l.length by rw [HKK.out]; omega)
    have hbb:=HBD.out _ (List.getElem_mem HKL2.out)
    have HX:=Lib.hid (fun (u1 u2:Value)=>HNX.out (l.set K ((l[K]'HKL2.out).1.put 2 10 LT,u1,u2)) (by
     rw [para_speech hp (K:=K) (by rw [List.length_map]; exact HKK.out),List.map_set,List.getElem_map,HLS.out]))
    obtain ⟨⟨b0,u1,u2⟩,hy0⟩:∃ y,(l[K]'HKL2.out) = y:=⟨_,rfl⟩
    have HSS:=Lib.hid (show l = l.set K (b0,u1,u2) by rw [← hy0,List.set_getElem_self])
    have hgy:l[K]? = some (b0,u1,u2):=by rw [List.getElem?_eq_getElem HKL2.out,hy0]
    rw [hy0] at hbb HX
    dsimp only at hbb HX
    have hr1:=NA.out.row false K _ hgy
    have hr2:=NA.out.row true K _ hgy
    have ho1:Own strR wA w.heap.size w.heap.size 9 b0.lines u1:=Own.strs hr1.1
    have ho2:Own valR wA w.heap.size w.heap.size 4 (b0.kinds.map fun k:Nat=>Value.bool (decide (k = 2))) u2:=hr2.1
    have hne1:∀ g,u1.ownBlock = some g → (Value.slice (some ⟨g0,0,none⟩) (K + 1) cap).ownBlock ≠ some g:=fun g hg=>(hr1.2 g hg).1
    obtain ⟨A1,n1,c1,rfl⟩:=own_form ho1
    obtain ⟨A2,n2,c2,rfl⟩:=own_form ho2
    obtain ⟨⟨k1,k2⟩,_⟩:=RbN.cells HSS.out HKL2.out NA.out
    have k1':wA.cell? ⟨g0,K * 3 + 1,none⟩ = some (.slice A1 n1 c1):=k1
    have hgA:=(NA.out.bo.own.block g0 rfl).2
    have HO1:=Lib.hid ho1
    have HNE:=Lib.hid hne1
    have HGA:=Lib.hid hgA
    have HK2:=Lib.hid k2
    have HK1:=Lib.hid k1'
    have HSL:=Lib.hid (hoA.sliF (F:=fun _=>True) (enc:=fun x:ByteArray=>[.string x]) (hn:=fun _=>rfl) (fun _ _=>trivial))
    have HBBD:=Lib.hid hbb
    have hbz1:=hbb.1
    have hbz2:=hbb.2
    have hbase:w.heap.size ≤ wA.heap.size:=NA.out.bo.size
    clear hln hlm hy0 hgy hr1 hr2 ho1 ho2 hne1 k1 k2 hgA hbb hoA
    go_upto_region 11 with (at_builtin; (refine wpList_appL (enc:=fun x:ByteArray=>[.string x]) (hn:=fun _=>rfl) rfl _ _ _ rfl w.heap.size w.heap.size 9 i1 _ 16 Tryz.underlying31 hi1 hy0 hy1 hy2 rfl (by decide) (fun x u hu=>by simp at hu; subst hu; rfl) _ (.slice A1 n1 c1) b0.lines rfl HO1.out (LT.map (indS 10)) AA nA cA rfl HSL.out HLN.out (by omega) (by unfold maxLen; omega) (by omega) (by omega) ?_); intro g cap9 wB hownB hgB hatB hltB; have hkB:=hgB.block g0 HGA.out (fun e=>HNE.out g0 e.symm rfl); have fB:wB.frozen? ⟨g0,K * 3 + 1,none⟩ = false:=(World.frozen?_of_block hkB).trans HK2.out; have cB:wB.cell? ⟨g0,K * 3 + 1,none⟩ = some (.slice A1 n1 c1):=(World.cell?_of_block hkB).trans HK1.out)
    have NB:=Lib.hid (RbN.line (y:=(b0,Value.slice A1 n1 c1,Value.slice A2 n2 c2)) (L':=b0.lines ++ LT.map (indS 10)) (HSS.out ▸ NA.out) HKL2.out (Own.vals hownB) hgB rfl (hatB.imp id fun h=>Nat.le_of_eq h.symm))
    dsimp only at NB
    clear hownB hgB hatB hltB hkB fB cB k1' HK1 HK2 HO1 HSL HNE HGA NA
    generalize wB.setCell ⟨g0,K * 3 + 1,none⟩ (.slice (some ⟨g,0,none⟩) (b0.lines.length + nA) cap9) = wC at *
    generalize Value.slice (some ⟨g,0,none⟩) (b0.lines.length + nA) cap9 = uL at *
    go_wp2
    go_loopw [51] (fun i wr=>∃ (j:Nat) (u:Value),j ≤ nA ∧ i = .int .i64 j ∧ Hid (RbN w (l.set K ({ kind:=b0.kind,lines:=b0.lines ++ LT.map (indS 10),kinds:=b0.kinds ++ List.replicate j 2,name:=b0.name },uL,u)) (.slice (some ⟨g0,0,none⟩) (K + 1) cap) [(X,#[.int .i64 p.kind,.string p.text],78)] wr)) (fun i _=>nA - (intOf i).toNat)
    case atStart=>exact ⟨0,_,Nat.zero_le _,rfl,Lib.hid (by rw [List.replicate_zero,List.append_nil]; exact NB.out)⟩
    case round=>
     clear NB
     obtain ⟨j,u,hj,rfl,HG⟩:=hrel
     have hzg:=HG.out.bo.size
     by_cases hlj:j < nA
     ·have hrk:=HG.out.row true K _ (List.getElem?_set_self HKL2.out)
      have ho3:Own valR wr w.heap.size w.heap.size 4 ((b0.kinds ++ List.replicate j 2).map fun k:Nat=>Value.bool (decide (k = 2))) u:=hrk.1
      have hne3:∀ g,u.ownBlock = some g → (Value.slice (some ⟨g0,0,none⟩) (K + 1) cap).ownBlock ≠ some g ∧ X ≠ g:=fun g hg=>⟨(hrk.2 g hg).1,(hrk.2 g hg).2 (X,#[.int .i64 p.kind,.string p.text],78) (by simp)⟩
      obtain ⟨A3,n3,c3,rfl⟩:=own_form ho3
      obtain ⟨_,⟨k3,k4⟩⟩:=RbN.cells rfl HKL2.out HG.out
      have k3':wr.cell? ⟨g0,K * 3 + 2,none⟩ = some (.slice A3 n3 c3):=k3
      have kX:wr.cell? ⟨X,0,none⟩ = some (.int .i64 4):=by
       have h:=(HG.out.cell (p:=(X,#[.int .i64 p.kind,.string p.text],78)) (by simp)).1 0
       rw [← hp]
       exact h
      have hkl3:((b0.kinds ++ List.replicate j 2).map fun k:Nat=>Value.bool (decide (k = 2))).length ≤ 100003000:=by rw [List.length_map,List.length_append,List.length_replicate]; omega
      have HKE:=Lib.hid (show b0.kinds ++ List.replicate (j + 1) 2 = b0.kinds ++ List.replicate j 2 ++ [2] by rw [List.replicate_succ',List.append_assoc])
      have hgA:=(HG.out.bo.own.block g0 rfl).2
      have hXA:=HG.out.bo.plt (p:=(X,#[.int .i64 p.kind,.string p.text],78)) (by simp)
      dsimp only at hXA
      have HO3:=Lib.hid ho3
      have HNE3:=Lib.hid hne3
      have HKF:=Lib.hid k4
      generalize b0.kinds ++ List.replicate j 2 = ks at *
      clear hrk ho3 hne3 k3 k4
      go_upto_region 13 with (fail)
      obtain ⟨ι,ff,hne,hff,hfS⟩:=family (fun W=>W.cell? ⟨g0,K * 3 + 2,none⟩ = some (.slice A3 n3 c3) ∧ W.cell? ⟨X,0,none⟩ = some (.int .i64 4)) wr ⟨k3',kX⟩
      have hneW:Nonempty World:=⟨w⟩
      have s0:=fun p=>(hff p).1
      have s1:=fun p=>(hff p).2
      have HFS:=Lib.hid hfS
      have HC1:=Lib.hid (And.intro k3' kX)
      clear hff hfS k3' kX
      refine wp_region_segs2 [8,9] [] [] [([0,1,2,3,5],[4,6,7],8),([],[],9),([10,11],[],12)] (by kernel_rfl) (by kernel_rfl) (fun _ _ _ dd _ h=>by cases dd <;> exact h) (fun W=>∃ p:ι,W = ff p) (HFS.out _ HC1.out) ?_
      refine wpSegs2_step (by simp only [pick,List.getElem?_cons_succ,List.getElem?_cons_zero]; rfl) (by simp only [pick,List.getElem?_cons_succ,List.getElem?_cons_zero]; rfl) rfl (fun K0 hK0 L0 hL0=>?_)
      repeat (first | go_big_quiet_step (fail) | quiet_step (fail))
      refine wpQuiet_nil (hL0 _ ?_)
      repeat (first | go_big_quiet_step (fail) | quiet_step (fail))
      refine wpQuiet_nil ?_
      go_simp
      have HGA2:=Lib.hid (HG.out.drew.alloc (.cells #[.bool true] 4))
      have HOA2:=Lib.hid (HO3.out.drew.alloc (.cells #[.bool true] 4))
      have HNEW:=Lib.hid (heap_alloc_new wr.drew (.cells #[.bool true] 4))
      have C2:=Lib.hid (show (wr.drew.alloc (.cells #[.bool true] 4)).cell? ⟨g0,K * 3 + 2,none⟩ = some (.slice A3 n3 c3) ∧ (wr.drew.alloc (.cells #[.bool true] 4)).cell? ⟨X,0,none⟩ = some (.int .i64 4) from ⟨(World.cell?_alloc_lt wr.drew _ ⟨g0,K * 3 + 2,none⟩ hgA).trans HC1.out.1,(World.cell?_alloc_lt wr.drew _ ⟨X,0,none⟩ hXA).trans HC1.out.2⟩)
      have hzz:(wr.drew.alloc (.cells #[.bool true] 4)).heap.size = wr.heap.size + 1:=(show (wr.alloc (.cells #[.bool true] 4)).heap.size = wr.heap.size + 1 by simp)
      have hzz2:(wr.alloc (.cells #[.bool true] 4)).drew.heap.size = wr.heap.size + 1:=hzz
      refine hK0 (fun W=>∃ p:ι,W = ff p) _ _ (fun _ h=>h) (HFS.out _ C2.out) ?_
      refine wpSegs2_step (by simp only [pick,List.getElem?_cons_succ,List.getElem?_cons_zero]; rfl) (by simp only [pick,List.getElem?_cons_succ,List.getElem?_cons_zero]; rfl) rfl (fun K1 hK1 L1 hL1=>?_)
      repeat (first | go_big_quiet_step (fail) | quiet_step (fail))
      refine wpQuiet_nil (hL1 _ ?_)
      repeat (first | go_big_quiet_step (fail) | quiet_step (fail))
      refine wpQuiet_nil ?_
      refine oper_push (R:=valR) rfl _ _ _ rfl w.heap.size w.heap.size 4 i2 _ 1 Tryz.underlying112 hi2 hx0 hx1 hx2 rfl (by decide) _ (.slice A3 n3 c3) (ks.map fun k:Nat=>Value.bool (decide (k = 2))) rfl HOA2.out (.bool true) _ rfl (oneC rfl) wr.heap.size _ _ HNEW.out rfl (by unfold maxLen; omega) (by omega) (by omega) ?_
      intro gk capk wk hownk hgk hatk hltk
      have hk8:=hgk.block g0 (by omega) (fun e=>(HNE3.out g0 e.symm).1 rfl)
      have hX8:=hgk.block X (by omega) (fun e=>(HNE3.out X e.symm).2 rfl)
      have fk:wk.frozen? ⟨g0,K * 3 + 2,none⟩ = false:=(World.frozen?_of_block hk8).trans (RbN.cells rfl HKL2.out HGA2.out).2.2
      have ck:wk.cell? ⟨g0,K * 3 + 2,none⟩ = some (.slice A3 n3 c3):=(World.cell?_of_block hk8).trans C2.out.1
      have NK:=Lib.hid (RbN.kind (K':=ks ++ [2]) HGA2.out HKL2.out (by rw [List.map_append]; exact hownk) hgk rfl (hatk.imp id fun h=>by omega))
      dsimp only at NK
      rw [List.length_map] at NK ⊢
      refine hK1 (fun W=>∃ p:ι,W = ff p) _ _ (fun _ h=>h) (HFS.out _ ⟨ck,(World.cell?_of_block hX8).trans C2.out.2⟩) ?_
      clear hownk hgk hatk hltk hk8 hX8 HGA2 HOA2 HNEW C2 HG HO3 HNE3 HKF
      refine wpSegs2_last (by simp only [pick,List.getElem?_cons_succ,List.getElem?_cons_zero]; rfl) (by simp only [pick,List.getElem?_cons_succ,List.getElem?_cons_zero]; rfl) rfl (by rfl) (fun K2 hK2 L2 hL2=>?_)
      repeat (first | go_big_quiet_step (fail) | quiet_step (fail))
      refine wpQuiet_nil (hL2 _ ?_)
      repeat (first | go_big_quiet_step (fail) | quiet_step (fail))
      refine wpQuiet_nil ?_
      go_simp
      refine hK2 _ _ (wpSegs2_end ?_)
      clear s0 s1 fk ck hzz hzz2
      go_wp2
      go_roundw
      case rel=>exact ⟨j + 1,_,by omega,intNum,Lib.hid (by rw [HKE.out]; exact NK.out)⟩
      case measure=>simp [intOf]; omega
     ·have hjn:j = nA:=by omega
      subst hjn
      have HG2:=Lib.hid (HG.out.less (Q:=[]) (by simp))
      have HPF:=Lib.hid (put_full b0 2 10 LT)
      rw [HLM.out] at HPF
      clear HG
      go_wp2
      go_roundw
      case rel=>exact ⟨k + 1,_,by omega,intNum,HX.out uL u,Lib.hid (by rw [HPF.out]; exact HG2.out)⟩
      case measure=>simp [intOf]; omega
   ·have HX:=Lib.hid (fun (u1 u2:Value)=>HNX.out (l ++ [(blkTurn p.text,u1,u2)]) (by rw [para_turn hp,List.map_append]; rfl))
    have ht40:p.text.size ≤ 40:=by
     have h:=HPE.out
     unfold paraE at h
     split at h
     ·omega
     ·split at h
      ·omega
      ·split at h
       ·omega
       ·split at h
        ·omega
        ·split at h
         ·omega
         ·split at h
          ·omega
          ·rename_i h6
           by_cases hb:turnB p.text = false
           ·exact absurd ⟨hp,hb⟩ h6
           ·rw [Bool.not_eq_false] at hb
            unfold turnB at hb
            rw [Bool.and_eq_true] at hb
            exact of_decide_eq_true hb.2
    rw [hp] at d0
    clear hp
    obtain ⟨tb,htb⟩:∃ tb,p.text ++ (⟨#[58]⟩:ByteArray) = tb:=⟨_,rfl⟩
    have htbs:tb.size = p.text.size + 1:=by rw [← htb,ByteArray.size_append]; rfl
    have e1:(⟨#[58]⟩:ByteArray).size = 1:=rfl
    have hx1:¬ 9223372036854775807 < p.text.size + (⟨#[58]⟩:ByteArray).size:=by omega
    have hx2:¬ 9223372036854775807 < p.text.size + 1:=by omega
    obtain ⟨n,hn⟩:∃ n:Nat,60 - tb.size = n:=⟨_,rfl⟩
    have r1:IntKind.i64.wrap (60 - (p.text.size:Int)) = 60 - (p.text.size:Int):=IntWalk.i64_in _ (by omega)
    have r2:IntKind.i64.wrap (60 - (p.text.size:Int) - 1) = (n:Int):=by rw [show 60 - (p.text.size:Int) - 1 = (n:Int) by omega]; exact IntWalk.i64_in _ (by omega)
    have HTL:=Lib.hid (show (blkTurn p.text).lines = [tb].map (indS n) by unfold blkTurn; rw [htb,hn]; rfl)
    have hbA:=(Below.refl w5.heap.size w5).alloc (Nat.le_refl _) (.cells #[.string tb] 9)
    have hSA:=(Own.lit1 w5 9 tb).sliF (F:=fun q=>q < (w5.alloc (.cells #[.string tb] 9)).heap.size) (enc:=fun x:ByteArray=>[.string x]) (hn:=fun _=>rfl) (fun g hg=>((Own.lit1 w5 9 tb).block g hg).2)
    have HIN:=Lib.hid (indented_c n [tb] (.slice (some ⟨w5.heap.size,0,none⟩) 1 1) (w5.alloc (.cells #[.string tb] 9)) hSA (fun _ h=>h) (by omega) (by simp) (fun y hy=>by rw [List.mem_singleton.1 hy]; omega))
    have HBA:=Lib.hid hbA
    clear hbA hSA hn htbs e1
    go_wp2_with fail
    refine HIN.out.mono ?_
    rintro e w7 ⟨v7,rfl,hb7,ho7⟩
    rw [← HTL.out] at ho7
    obtain ⟨A7,n7,c7,rfl⟩:=own_form ho7
    have hz7:=hb7.size
    have hbB:=HBA.out.trans (hb7.mono HBA.out.size)
    have hzA:=HBA.out.size
    have O7:=Lib.hid (((N6.out.below hbB).alloc (.cells (rbCs (blkTurn p.text,Value.slice A7 n7 c7,Value.slice none 0 0)).toArray 162)).bo.own)
    have HP:=Lib.hid (fun (wy:World) (v':Value) (g:Nat) (o:Obj)=>RbN.snoc (wy:=wy) (v':=v') (g:=g) (o:=o) N6.out hbB (b:=blkTurn p.text) (v2:=.slice none 0 0) (Own.less (enc:=fun v:Value=>[v]) (hn:=fun _=>rfl) (Own.vals ho7) hzA) Own.nil_ Dis.nil_)
    clear hb7 ho7 d0 d1 hbB HBA r1 r2 hx1 hx2
    go_wp2_with (at_builtin; (refine wpList_pushB (R:=rbR) rfl _ _ _ rfl w.heap.size w.heap.size 162 i0 _ 56 Tryz.underlying109 hi0 hz0 hz1 hz2 rfl (by decide) _ (.slice (some ⟨g0,0,none⟩) (K + 1) cap) l rfl O7.out (blkTurn p.text,Value.slice A7 n7 c7,Value.slice none 0 0) _ rfl (by intro u hu; simp [rbCs] at hu; rcases hu with rfl | rfl | rfl <;> rfl) w7.heap.size _ _ (heap_alloc_new w7 _) rfl (by unfold maxLen; omega) (by omega) (by simp; omega) ?_); intro g cap8 w8 hown8 hg8 hat8 hlt8)
    go_roundw
    case rel=>exact ⟨k + 1,_,by omega,intNum,HX.out _ _,HP.out _ _ _ _ hown8 hg8 rfl hat8⟩
    case measure=>simp [intOf]; omega
  ·have HTK:=Lib.hid (show blkN x k = blocksS x by unfold blkN blocksS; rw [List.take_of_length_le (by rw [HL.out]; omega)])
   go_wp2
   go_ret
   exact ⟨l,_,rfl,HE.out.trans HTK.out,HN.out⟩
end Go.Proofs.YtaoobkgepcikiaaGreatDoor
