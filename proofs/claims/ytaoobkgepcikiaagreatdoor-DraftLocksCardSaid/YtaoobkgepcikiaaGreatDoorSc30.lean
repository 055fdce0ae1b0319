/- Texts packed: BlW. -/
import Derived.Test.YtaoobkgepcikiaaGreatDoorSc29
import Derived.Test.YtaoobkgepcikiaaGreatDoorSc10
import Derived.Test.YtaoobkgepcikiaaGreatDoorSc17
namespace Go.Proofs.YtaoobkgepcikiaaGreatDoor
set_option linter.unusedVariables false
open Go.RowKit Go.Sort
def bkR:Rep BkT:=Rep.flat 4 bkCs (fun _=>rfl)
def blkN (x:Scene) (k:Nat):List Blk:=(x.paras.take k).foldl blkPara [blkWrap 0 (headS x)]
theorem blkN_step {x:Scene} {k:Nat} (hk:k < x.paras.length):blkN x (k + 1) = blkPara (blkN x k) x.paras[k]:=by
 unfold blkN
 rw [List.take_succ_eq_append_getElem hk,List.foldl_append]
 rfl
theorem blkN_pos (x:Scene):∀ k,0 < (blkN x k).length
 | 0=>by simp [blkN]
 | k + 1=>by
  by_cases hk:k < x.paras.length
  ·rw [blkN_step hk]
   have:=blkN_pos x k
   unfold blkPara
   repeat' split
   all_goals simp
   all_goals omega
  ·have:=blkN_pos x k
   unfold blkN at this ⊢
   rw [List.take_of_length_le (by omega)]
   rw [List.take_of_length_le (by omega)] at this
   exact this
theorem para_act {out:List Blk} {p:Para} (h:p.kind = 1):blkPara out p = out ++ [blkWrap 1 p.text]:=if_pos h
theorem para_turn {out:List Blk} {p:Para} (h:p.kind = 5):blkPara out p = out ++ [blkTurn p.text]:=by unfold blkPara; rw [if_neg (by omega),if_pos h]
theorem para_cue {out:List Blk} {p:Para} (h:p.kind = 2):blkPara out p = out ++ [blkGroup p.text]:=by unfold blkPara; rw [if_neg (by omega),if_neg (by omega),if_pos h]
theorem modify_lastK {α:Type} {l:List α} {K:Nat} (hK:l.length = K + 1) (f:α → α):l.modify (l.length - 1) f = l.set K (f (l[K]'(by omega))):=by
 rw [show l.length - 1 = K by omega]
 apply List.ext_getElem?
 intro i
 rw [List.getElem?_modify,List.getElem?_set]
 by_cases e:K = i
 ·subst e
  rw [if_pos rfl,if_pos (by omega),List.getElem?_eq_getElem (by omega)]
  simp
 ·rw [if_neg e]
  cases l[i]? <;> simp [e]
theorem para_aside {out:List Blk} {p:Para} {K:Nat} (h:p.kind = 3) (hK:out.length = K + 1):blkPara out p = out.set K ((out[K]'(by omega)).put 1 15 (wrapT (⟨#[40]⟩ ++ p.text ++ ⟨#[41]⟩) 30)):=by
 unfold blkPara; rw [if_neg (by omega),if_neg (by omega),if_neg (by omega),if_pos h,modify_lastK hK]
theorem para_speech {out:List Blk} {p:Para} {K:Nat} (h:p.kind = 4) (hK:out.length = K + 1):blkPara out p = out.set K ((out[K]'(by omega)).put 2 10 (wrapT p.text 35)):=by
 unfold blkPara; rw [if_neg (by omega),if_neg (by omega),if_neg (by omega),if_neg (by omega),if_pos h,modify_lastK hK]
theorem BkN.snoc {w wx wa wy:World} {l:List BkT} {v v' v1 v2:Value} {P:List Pc} {b:Blk} {g:Nat} {o:Obj} (h:BkN w l v P wx) (hb:Below wx.heap.size wx wa) (h1:Own valR wa wx.heap.size wx.heap.size 9 (b.lines.map .string) v1) (h2:Own valR wa wx.heap.size wx.heap.size 3 (b.kinds.map fun k:Nat=>Value.int .i64 (k:Int)) v2) (hd:Dis v1 v2)
  (hown:Own bkR wy w.heap.size w.heap.size 99 (l ++ [(b,v1,v2)]) v') (hg:(wa.alloc o).grownBy wy v.ownBlock) (hv:v'.ownBlock = some g) (hat:v.ownBlock = some g ∨ g = (wa.alloc o).heap.size):BkN w (l ++ [(b,v1,v2)]) v' P wy:=
 NG.push ((h.below hb).alloc o) ((NGNew.of h (x':=(b,v1,v2)) (fun c=>by
  cases c with
  | false=>exact h1
  | true=>exact h2) (fun c d hcd=>by
  cases c with
  | false=>cases d with
   | false=>exact absurd rfl hcd
   | true=>exact hd
  | true=>cases d with
   | true=>exact absurd rfl hcd
   | false=>exact hd.symm)).alloc o) hown hg hv hat
theorem BkN.first {w wx wa:World} {v1 v2:Value} {b:Blk} (hb0:Below w.heap.size w wx) (hb:Below wx.heap.size wx wa) (h1:Own valR wa wx.heap.size wx.heap.size 9 (b.lines.map .string) v1) (h2:Own valR wa wx.heap.size wx.heap.size 3 (b.kinds.map fun k:Nat=>Value.int .i64 (k:Int)) v2) (hd:Dis v1 v2) :
  BkN w [(b,v1,v2)] (.slice (some ⟨wa.heap.size,0,none⟩) 1 1) [] (wa.alloc (.cells (bkCs (b,v1,v2)).toArray 99)):=
 NG.one (hb0.trans (hb.mono hb0.size)) (fun c=>by
  cases c with
  | false=>exact Own.less (enc:=fun v:Value=>[v]) (hn:=fun _=>rfl) h1 hb0.size
  | true=>exact Own.less (enc:=fun v:Value=>[v]) (hn:=fun _=>rfl) h2 hb0.size) (fun c d hcd=>by
  cases c with
  | false=>cases d with
   | false=>exact absurd rfl hcd
   | true=>exact hd
  | true=>cases d with
   | true=>exact absurd rfl hcd
   | false=>exact hd.symm)
def BlsP (x:Scene) (w:World) (e:Ending) (w':World):Prop:=∃ (l:List BkT) (v:Value),e = .returned v ∧ l.map (·.1) = blocksS x ∧ BkN w l v [] w'
set_option maxRecDepth 100000 in
set_option maxHeartbeats 8000000 in
theorem Blocks_c {F:Nat → Prop} (x:Scene) (v:Value) (w:World) (hv:Sli paraR w F x.paras v) (hF:∀ b,F b → b < w.heap.size) (hok:LnOk x) :
  Calls Tryz.prog 50 #[.agg #[.string x.no,.int .i64 x.place,.string x.set,.int .i64 x.time,v]] w (BlsP x w):=by
 obtain ⟨i0,hi0,hz0,hz1,hz2⟩:=info_parts (show (Tryz.prog.info? 99).map (fun i=>(i.zero,i.size,i.bytes)) = some (some (.agg #[.int .i64 0,.slice none 0 0,.slice none 0 0,.string ⟨#[]⟩]),4,72) by kernel_rfl)
 obtain ⟨A,c,rfl,hlc,hcm⟩:=hv.form
 obtain ⟨L,hL⟩:∃ L,x.paras.length = L:=⟨_,rfl⟩
 have HL:=Lib.hid hL
 rw [hL] at hv hlc ⊢
 have HV:=Lib.hid hv
 have HF:=Lib.hid hF
 have HOK:=Lib.hid hok
 have hpn:L ≤ 4000:=by rw [← hL]; exact hok.pn
 have hso:=hok.sizes
 have hpl:=hok.ok.2.1
 have hti:=hok.ok.2.2.1
 have HHC:=Lib.hid (fun (W:World)=>heading_c x A L c W (by omega) (by omega) (by omega) (by omega))
 have HNH:=Lib.hid (fun (W:World)=>NewHeading_c (headS x) W (by have:=hok.head.1; omega))
 clear hL hv hF hok hso hpl hti
 go_enter Tryz.func50,Tryz.ntmps50
 go_upto_region 1 with (fail)
 have hB1:=(Below.refl w.heap.size w).alloc (Nat.le_refl _) (.cells #[.string x.no,.int .i64 x.place,.string x.set,.int .i64 x.time,.slice A L c] 46)
 have hz1':w.heap.size < (w.alloc (.cells #[.string x.no,.int .i64 x.place,.string x.set,.int .i64 x.time,.slice A L c] 46)).heap.size:=by simp
 generalize hW:w.alloc (.cells #[.string x.no,.int .i64 x.place,.string x.set,.int .i64 x.time,.slice A L c] 46) = w1 at *
 obtain ⟨y,_⟩:=str_cells (show w1.heap[w.heap.size]? = some (.cells #[.string x.no,.int .i64 x.place,.string x.set,.int .i64 x.time,.slice A L c] 46 (0,0)) from by rw [← hW]; exact heap_alloc_new w _)
 have y0:w1.cell? ⟨w.heap.size,0,none⟩ = some (.string x.no):=y 0
 have y1:w1.cell? ⟨w.heap.size,1,none⟩ = some (.int .i64 x.place):=y 1
 have y2:w1.cell? ⟨w.heap.size,2,none⟩ = some (.string x.set):=y 2
 have y3:w1.cell? ⟨w.heap.size,3,none⟩ = some (.int .i64 x.time):=y 3
 have y4:w1.cell? ⟨w.heap.size,4,none⟩ = some (.slice A L c):=y 4
 have HB1:=Lib.hid hB1
 clear y hW hB1
 go_wp2_with fail
 refine (HHC.out _).mono ?_
 rintro e w2 ⟨rfl,hb2⟩
 go_wp2_with fail
 refine (HNH.out _).mono ?_
 rintro e w3 ⟨v1,rfl,hb3,ho1⟩
 obtain ⟨A1,n1,c1,rfl⟩:=own_form ho1
 have hB2:=HB1.out.trans (hb2.mono HB1.out.size)
 have HN0:=Lib.hid (BkN.first (b:=blkWrap 0 (headS x)) (v2:=.slice none 0 0) hB2 hb3 (Own.vals ho1) Own.nil_ Dis.nil_)
 have Y4:=Lib.hid (show (w3.alloc (.cells #[.int .i64 0,.slice A1 n1 c1,.slice none 0 0,.string ⟨#[]⟩] 99)).cell? ⟨w.heap.size,4,none⟩ = some (.slice A L c) from
  (World.cell?_alloc_lt w3 _ ⟨w.heap.size,4,none⟩ (by have:=hb2.size; have:=hb3.size; show w.heap.size < _; omega)).trans ((hb3.cell (p:=⟨w.heap.size,4,none⟩) (by have:=hb2.size; show w.heap.size < _; omega)).trans ((hb2.cell (p:=⟨w.heap.size,4,none⟩) hz1').trans y4)))
 clear hb2 hb3 ho1 hB2 y0 y1 y2 y3 y4 HHC HNH HB1
 go_upto_region 2 with (fail)
 have HN1:=Lib.hid (show BkN w [(blkWrap 0 (headS x),Value.slice A1 n1 c1,Value.slice none 0 0)] (.slice (some ⟨w3.heap.size,0,none⟩) 1 1) [] (w3.alloc (.cells #[.int .i64 0,.slice A1 n1 c1,.slice none 0 0,.string ⟨#[]⟩] 99)) from HN0.out)
 have y4:=Y4.out
 clear HN0 Y4
 generalize w3.alloc (.cells #[.int .i64 0,.slice A1 n1 c1,.slice none 0 0,.string ⟨#[]⟩] 99) = w4 at *
 generalize w3.heap.size = G at *
 go_wp2
 go_loopw [3,13] (fun v i wr=>∃ (k:Nat) (l:List BkT),k ≤ L ∧ i = .int .i64 k ∧ Hid (l.map (·.1) = blkN x k) ∧ Hid (BkN w l v [] wr)) (fun _ i _=>L - (intOf i).toNat)
 case atStart=>exact ⟨0,_,Nat.zero_le _,rfl,Lib.hid rfl,HN1.out⟩
 case round=>
  clear HN1 y4
  obtain ⟨k,l,hk,rfl,HE,HN⟩:=hrel
  have hbz:=HN.out.bo.size
  by_cases hlt:k < L
  ·have hkl:k < x.paras.length:=by rw [HL.out]; exact hlt
   obtain ⟨b,off,rfl,hfb,p0,p1⟩:=paraAt (HV.out.below HN.out.bo.bel HF.out) k hkl
   have hbw:b < wr.heap.size:=by have:=HF.out b hfb; omega
   have hpa:=HOK.out.para (List.getElem_mem hkl)
   have HST:=Lib.hid (blkN_step hkl)
   have hbd:=blocks_bd HOK.out k (by omega)
   have hlen:l.length = (blkN x k).length:=by rw [← HE.out,List.length_map]
   have hpos:=blkN_pos x k
   have hll:l.length ≤ 4001:=by rw [hlen]; have:=hbd.1; unfold blkN; omega
   have HBD:=Lib.hid (show ∀ y ∈ l,y.1.lines.length ≤ 100000000 ∧ y.1.kinds.length ≤ 100000000 from fun y hy=>by
    have h:=hbd.2 y.1 (show y.1 ∈ blkN x k by rw [← HE.out]; exact List.mem_map_of_mem hy)
    omega)
   obtain ⟨K,hK⟩:∃ K,l.length = K + 1:=⟨l.length - 1,by omega⟩
   generalize x.paras[k]'hkl = p at *
   obtain ⟨g0,cap,rfl,hg01,hg02⟩:=Own.some_ HN.out.bo.own (by omega:0 < l.length)
   rw [hK] at HN ⊢
   have HKK:=Lib.hid hK
   have N5:=Lib.hid (HN.out.new #[.int .i64 p.kind,.string p.text] 78)
   have HPA:=Lib.hid hpa
   clear hkl hpos hlen hbd hpa hK
   go_upto_region 5 with (fail)
   generalize hW:wr.alloc (.cells #[.int .i64 p.kind,.string p.text] 78) = w5 at *
   obtain ⟨gx,_⟩:=N5.out.cell (p:=(wr.heap.size,#[.int .i64 p.kind,.string p.text],78)) (by simp)
   have d0:w5.cell? ⟨wr.heap.size,0,none⟩ = some (.int .i64 p.kind):=gx 0
   have d1:w5.cell? ⟨wr.heap.size,1,none⟩ = some (.string p.text):=gx 1
   have N6:=Lib.hid (N5.out.less (Q:=[]) (by simp))
   clear gx hW N5 p0 p1 HN
   generalize wr.heap.size = X at *
   have h5:=HPA.out.2.2.2
   have h1:=HPA.out.2.2.1
   have htz:=HPA.out.1
   have hz6:=N6.out.bo.size
   have HNX:=Lib.hid (fun (l':List BkT) (h:l'.map (·.1) = blkPara (l.map (·.1)) p)=>show l'.map (·.1) = blkN x (k + 1) by rw [HST.out,← HE.out]; exact h)
   rcases (by omega:p.kind = 1 ∨ p.kind = 2 ∨ p.kind = 3 ∨ p.kind = 4 ∨ p.kind = 5) with hp | hp | hp | hp | hp
   ·have HX:=Lib.hid (fun (u1 u2:Value)=>HNX.out (l ++ [(blkWrap 1 p.text,u1,u2)]) (by rw [para_act hp,List.map_append]; rfl))
    rw [hp] at d0
    clear hp
    go_wp2_with fail
    refine (NewAction_c p.text w5 (by omega)).mono ?_
    rintro e w7 ⟨v7,rfl,hb7,ho7⟩
    obtain ⟨A7,n7,c7,rfl⟩:=own_form ho7
    have hz7:=hb7.size
    have O7:=Lib.hid (((N6.out.below hb7).alloc (.cells (bkCs (blkWrap 1 p.text,Value.slice A7 n7 c7,Value.slice none 0 0)).toArray 99)).bo.own)
    have HP:=Lib.hid (fun (wy:World) (v':Value) (g:Nat) (o:Obj)=>BkN.snoc (wy:=wy) (v':=v') (g:=g) (o:=o) N6.out hb7 (b:=blkWrap 1 p.text) (v2:=.slice none 0 0) (Own.vals ho7) Own.nil_ Dis.nil_)
    clear hb7 ho7 d0 d1
    go_wp2_with (at_builtin; (refine wpList_pushB (R:=bkR) rfl _ _ _ rfl w.heap.size w.heap.size 99 i0 _ 72 Tryz.underlying94 hi0 hz0 hz1 hz2 rfl (by decide) _ (.slice (some ⟨g0,0,none⟩) (K + 1) cap) l rfl O7.out (blkWrap 1 p.text,Value.slice A7 n7 c7,Value.slice none 0 0) _ rfl (by intro u hu; simp [bkCs] at hu; rcases hu with rfl | rfl | rfl | rfl <;> rfl) w7.heap.size _ _ (heap_alloc_new w7 _) rfl (by unfold maxLen; omega) (by omega) (by simp; omega) ?_); intro g cap8 w8 hown8 hg8 hat8 hlt8)
    go_roundw
    case rel=>exact ⟨k + 1,_,by omega,intNum,HX.out _ _,HP.out _ _ _ _ hown8 hg8 rfl hat8⟩
    case measure=>simp [intOf]; omega
   ·have HX:=Lib.hid (fun (u1 u2:Value)=>HNX.out (l ++ [(blkGroup p.text,u1,u2)]) (by rw [para_cue hp,List.map_append]; rfl))
    rw [hp] at d0
    clear hp
    go_wp2_with fail
    refine (NewGroup_c p.text w5 (by omega)).mono ?_
    rintro e w7 ⟨v7,v8,rfl,hb7,ho7,ho8,hd7⟩
    obtain ⟨A7,n7,c7,rfl⟩:=own_form ho7
    obtain ⟨A8,n8,c8,rfl⟩:=own_form ho8
    have hz7:=hb7.size
    have O7:=Lib.hid (((N6.out.below hb7).alloc (.cells (bkCs (blkGroup p.text,Value.slice A7 n7 c7,Value.slice A8 n8 c8)).toArray 99)).bo.own)
    have HP:=Lib.hid (fun (wy:World) (v':Value) (g:Nat) (o:Obj)=>BkN.snoc (wy:=wy) (v':=v') (g:=g) (o:=o) N6.out hb7 (b:=blkGroup p.text) ho7 ho8 hd7)
    clear hb7 ho7 ho8 hd7 d0 d1
    go_wp2_with (at_builtin; (refine wpList_pushB (R:=bkR) rfl _ _ _ rfl w.heap.size w.heap.size 99 i0 _ 72 Tryz.underlying94 hi0 hz0 hz1 hz2 rfl (by decide) _ (.slice (some ⟨g0,0,none⟩) (K + 1) cap) l rfl O7.out (blkGroup p.text,Value.slice A7 n7 c7,Value.slice A8 n8 c8) _ rfl (by intro u hu; simp [bkCs] at hu; rcases hu with rfl | rfl | rfl | rfl <;> rfl) w7.heap.size _ _ (heap_alloc_new w7 _) rfl (by unfold maxLen; omega) (by omega) (by simp; omega) ?_); intro g cap8 w8 hown8 hg8 hat8 hlt8)
    go_roundw
    case rel=>exact ⟨k + 1,_,by omega,intNum,HX.out _ _,HP.out _ _ _ _ hown8 hg8 rfl hat8⟩
    case measure=>simp [intOf]; omega
   ·have HX:=Lib.hid (fun (u1 u2:Value)=>HNX.out (l.set K ((l[K]'(by have:=HKK.out; omega)).1.put 1 15 (wrapT (⟨#[40]⟩ ++ p.text ++ ⟨#[41]⟩) 30),u1,u2)) (by
     rw [para_aside hp (K:=K) (by rw [List.length_map]; exact HKK.out),List.map_set,List.getElem_map]))
    rw [hp] at d0
    clear hp
    have hkl2:K < l.length:=by rw [HKK.out]; omega
    have hbb:=HBD.out _ (List.getElem_mem hkl2)
    have HKL2:=Lib.hid hkl2
    have HBB:=Lib.hid hbb
    have hX5:X < w5.heap.size:=by
     have h:=d1
     exact World.block_lt_of_cell? w5 ⟨X,1,none⟩ h
    have q1:(0:Int) ≤ K:=by omega
    have q2:IntKind.i64.wrap ((K:Int) + 1 - 1) = K:=by rw [show (K:Int) + 1 - 1 = K by omega]; exact IntWalk.i64_in _ (by omega)
    have q3:(K:Int) < K + 1:=by omega
    have q4:IntKind.i64.wrap (K:Int) = K:=IntWalk.i64_in _ (by omega)
    obtain ⟨b0,hb0⟩:∃ b0,(l[K]'HKL2.out).1 = b0:=⟨_,rfl⟩
    rw [hb0] at HBB HX
    have HB0:=Lib.hid hb0
    clear hkl2 hbb hb0
    go_upto_region 13 with (fail)
    obtain ⟨ι,ff,hne,hff,hfS⟩:=family (fun W=>W.cell? ⟨X,1,none⟩ = some (.string p.text)) w5 d1
    have hneW:Nonempty World:=⟨w⟩
    have s0:=fun p=>hff p
    have HFS:=Lib.hid hfS
    have HC1:=Lib.hid d1
    clear hff hfS d0 d1
    refine wp_region_segs2 [2] [] [] [([0,1,5],[6],2),([3,4],[],7)] (by kernel_rfl) (by kernel_rfl) (fun _ _ _ dd _ h=>by cases dd <;> exact h) (fun W=>∃ p:ι,W = ff p) (HFS.out _ HC1.out) ?_
    refine wpSegs2_step (by simp only [pick,List.getElem?_cons_succ,List.getElem?_cons_zero]; rfl) (by simp only [pick,List.getElem?_cons_succ,List.getElem?_cons_zero]; rfl) rfl (fun K0 hK0 L0 hL0=>?_)
    repeat (first | go_big_quiet_step (fail) | quiet_step (fail))
    refine wpQuiet_nil (hL0 _ ?_)
    repeat (first | go_big_quiet_step (fail) | quiet_step (fail))
    refine wpQuiet_nil ?_
    go_simp
    refine hK0 (fun W=>∃ p:ι,W = ff p) _ _ (fun _ h=>h) (HFS.out _ HC1.out) ?_
    refine wpSegs2_last (by simp only [pick,List.getElem?_cons_succ,List.getElem?_cons_zero]; rfl) (by simp only [pick,List.getElem?_cons_succ,List.getElem?_cons_zero]; rfl) rfl (by rfl) (fun K1 hK1 L1 hL1=>?_)
    repeat (first | go_big_quiet_step (fail) | quiet_step (fail))
    refine wpQuiet_nil (hL1 _ ?_)
    repeat (first | go_big_quiet_step (fail) | quiet_step (fail))
    refine wpQuiet_nil ?_
    go_simp
    refine (AddAside_c w w5.drew l b0 g0 (K + 1) cap K [] p.text N6.out.drew HKL2.out HB0.out (by have:=HKK.out; omega) HBB.out.1 HBB.out.2 htz).mono ?_
    rintro e w7 ⟨rfl,u1,u2,hN7⟩
    have N7:=Lib.hid hN7
    clear hN7 s0
    refine hK1 _ _ (wpSegs2_end ?_)
    go_wp2
    go_roundw
    case rel=>exact ⟨k + 1,_,by omega,intNum,HX.out _ _,N7.out⟩
    case measure=>simp [intOf]; omega
   ·have HX:=Lib.hid (fun (u1 u2:Value)=>HNX.out (l.set K ((l[K]'(by have:=HKK.out; omega)).1.put 2 10 (wrapT p.text 35),u1,u2)) (by
     rw [para_speech hp (K:=K) (by rw [List.length_map]; exact HKK.out),List.map_set,List.getElem_map]))
    rw [hp] at d0
    clear hp
    have hkl2:K < l.length:=by rw [HKK.out]; omega
    have hbb:=HBD.out _ (List.getElem_mem hkl2)
    have HKL2:=Lib.hid hkl2
    have HBB:=Lib.hid hbb
    have hX5:X < w5.heap.size:=by
     have h:=d1
     exact World.block_lt_of_cell? w5 ⟨X,1,none⟩ h
    have q1:(0:Int) ≤ K:=by omega
    have q2:IntKind.i64.wrap ((K:Int) + 1 - 1) = K:=by rw [show (K:Int) + 1 - 1 = K by omega]; exact IntWalk.i64_in _ (by omega)
    have q3:(K:Int) < K + 1:=by omega
    have q4:IntKind.i64.wrap (K:Int) = K:=IntWalk.i64_in _ (by omega)
    obtain ⟨b0,hb0⟩:∃ b0,(l[K]'HKL2.out).1 = b0:=⟨_,rfl⟩
    rw [hb0] at HBB HX
    have HB0:=Lib.hid hb0
    clear hkl2 hbb hb0
    go_upto_region 15 with (fail)
    obtain ⟨ι,ff,hne,hff,hfS⟩:=family (fun W=>W.cell? ⟨X,1,none⟩ = some (.string p.text)) w5 d1
    have hneW:Nonempty World:=⟨w⟩
    have s0:=fun p=>hff p
    have HFS:=Lib.hid hfS
    have HC1:=Lib.hid d1
    clear hff hfS d0 d1
    refine wp_region_segs2 [2] [] [] [([0,1,5],[6],2),([3,4],[],7)] (by kernel_rfl) (by kernel_rfl) (fun _ _ _ dd _ h=>by cases dd <;> exact h) (fun W=>∃ p:ι,W = ff p) (HFS.out _ HC1.out) ?_
    refine wpSegs2_step (by simp only [pick,List.getElem?_cons_succ,List.getElem?_cons_zero]; rfl) (by simp only [pick,List.getElem?_cons_succ,List.getElem?_cons_zero]; rfl) rfl (fun K0 hK0 L0 hL0=>?_)
    repeat (first | go_big_quiet_step (fail) | quiet_step (fail))
    refine wpQuiet_nil (hL0 _ ?_)
    repeat (first | go_big_quiet_step (fail) | quiet_step (fail))
    refine wpQuiet_nil ?_
    go_simp
    refine hK0 (fun W=>∃ p:ι,W = ff p) _ _ (fun _ h=>h) (HFS.out _ HC1.out) ?_
    refine wpSegs2_last (by simp only [pick,List.getElem?_cons_succ,List.getElem?_cons_zero]; rfl) (by simp only [pick,List.getElem?_cons_succ,List.getElem?_cons_zero]; rfl) rfl (by rfl) (fun K1 hK1 L1 hL1=>?_)
    repeat (first | go_big_quiet_step (fail) | quiet_step (fail))
    refine wpQuiet_nil (hL1 _ ?_)
    repeat (first | go_big_quiet_step (fail) | quiet_step (fail))
    refine wpQuiet_nil ?_
    go_simp
    refine (AddSpeech_c w w5.drew l b0 g0 (K + 1) cap K [] p.text N6.out.drew HKL2.out HB0.out (by have:=HKK.out; omega) HBB.out.1 HBB.out.2 htz).mono ?_
    rintro e w7 ⟨rfl,u1,u2,hN7⟩
    have N7:=Lib.hid hN7
    clear hN7 s0
    refine hK1 _ _ (wpSegs2_end ?_)
    go_wp2
    go_roundw
    case rel=>exact ⟨k + 1,_,by omega,intNum,HX.out _ _,N7.out⟩
    case measure=>simp [intOf]; omega
   ·have HX:=Lib.hid (fun (u1 u2:Value)=>HNX.out (l ++ [(blkTurn p.text,u1,u2)]) (by rw [para_turn hp,List.map_append]; rfl))
    rw [hp] at d0
    clear hp
    go_wp2_with fail
    refine (NewTurn_c p.text w5 (by omega)).mono ?_
    rintro e w7 ⟨v7,rfl,hb7,ho7⟩
    obtain ⟨A7,n7,c7,rfl⟩:=own_form ho7
    have hz7:=hb7.size
    have O7:=Lib.hid (((N6.out.below hb7).alloc (.cells (bkCs (blkTurn p.text,Value.slice A7 n7 c7,Value.slice none 0 0)).toArray 99)).bo.own)
    have HP:=Lib.hid (fun (wy:World) (v':Value) (g:Nat) (o:Obj)=>BkN.snoc (wy:=wy) (v':=v') (g:=g) (o:=o) N6.out hb7 (b:=blkTurn p.text) (v2:=.slice none 0 0) (Own.vals ho7) Own.nil_ Dis.nil_)
    clear hb7 ho7 d0 d1
    go_wp2_with (at_builtin; (refine wpList_pushB (R:=bkR) rfl _ _ _ rfl w.heap.size w.heap.size 99 i0 _ 72 Tryz.underlying94 hi0 hz0 hz1 hz2 rfl (by decide) _ (.slice (some ⟨g0,0,none⟩) (K + 1) cap) l rfl O7.out (blkTurn p.text,Value.slice A7 n7 c7,Value.slice none 0 0) _ rfl (by intro u hu; simp [bkCs] at hu; rcases hu with rfl | rfl | rfl | rfl <;> rfl) w7.heap.size _ _ (heap_alloc_new w7 _) rfl (by unfold maxLen; omega) (by omega) (by simp; omega) ?_); intro g cap8 w8 hown8 hg8 hat8 hlt8)
    go_roundw
    case rel=>exact ⟨k + 1,_,by omega,intNum,HX.out _ _,HP.out _ _ _ _ hown8 hg8 rfl hat8⟩
    case measure=>simp [intOf]; omega
  ·have HTK:=Lib.hid (show blkN x k = blocksS x by unfold blkN blocksS; rw [List.take_of_length_le (by rw [HL.out]; omega)])
   go_wp2
   go_ret
   exact ⟨l,_,rfl,HE.out.trans HTK.out,HN.out⟩
end Go.Proofs.YtaoobkgepcikiaaGreatDoor
