/- Texts packed: PaF, PaO, PaP, LkA, LkC, FrsS, LkB, PaQ, LkD, LkE, LkF. -/
import Derived.Test.YtaoobkgepcikiaaGreatDoorSc35
import Derived.Test.YtaoobkgepcikiaaGreatDoorSc33
import Derived.Test.YtaoobkgepcikiaaGreatDoorSc02
import Derived.Test.YtaoobkgepcikiaaGreatDoorSc12
import Derived.Test.YtaoobkgepcikiaaGreatDoorSc24
import Derived.Test.YtaoobkgepcikiaaGreatDoorSc19
import Derived.Deep.CutBlock
import Derived.Test.YtaoobkgepcikiaaGreatDoorSc01
import Derived.Test.YtaoobkgepcikiaaGreatDoorSc31
namespace Go.Proofs.YtaoobkgepcikiaaGreatDoor
set_option linter.unusedVariables false
section
open Go.RowKit Go.Sort
abbrev FrQ:=List Value × Int
def frN (d:Nat) (fs:List Value) (fi:Int):FrQ:=if d = 0 then (fs,fi) else (fs ++ .int .i64 fi :: List.replicate (d - 1) (.int .i64 (-1)),-1)
theorem frN_succ {d:Nat} {fs fs':List Value} {fi fi':Int} (h:(fs',fi') = frN d fs fi):(fs' ++ [.int .i64 fi'],-1) = frN (d + 1) fs fi:=by
 unfold frN at h ⊢
 rw [if_neg (by omega)]
 by_cases h0:d = 0
 ·rw [if_pos h0] at h
  injection h with h1 h2
  subst h1 h2 h0
  rfl
 ·rw [if_neg h0] at h
  injection h with h1 h2
  subst h1 h2
  obtain ⟨e,rfl⟩:∃ e,d = e + 1:=⟨d - 1,by omega⟩
  rw [Nat.add_sub_cancel,Nat.add_sub_cancel,List.replicate_succ',List.append_assoc,List.cons_append]
def layF:List Blk → Nat → List (List ByteArray) → List ByteArray → FrQ → FrQ
 | [],_,_,_,F=>F
 | b :: r,i,P,pg,F=>
  let P1:=if topB b r pg = true ∧ ¬ pg = [] then P ++ [pg] else P
  let pg1:=if topB b r pg = true then [] else pg ++ List.replicate b.gap ⟨#[]⟩
  let q:=fillB b (b.lines.length + 1) 0 P1 pg1
  let F1:FrQ:=if topB b r pg = true ∧ ¬ pg = [] then (F.1 ++ [.int .i64 F.2],-1) else F
  layF r (i + 1) q.1 q.2 (frN (q.1.length - P1.length) F1.1 (if topB b r pg = true then (i:Int) else F1.2))
def frsB (l:List Blk):List Value:=(layF l 0 [] [] ([],-1)).1 ++ (if (layB l [] [] []).2.1 = [] then [] else [.int .i64 (layF l 0 [] [] ([],-1)).2])
def FlP2 (w:World) (o p f:Nat) (Ps:List (List ByteArray × Value)) (fs:List Value) (st:List Nat) (sV:Value) (X:List Pc) (e:Ending) (w':World):Prop:=e = .returned (.tuple #[]) ∧ ∃ pgV fV,LyM w o p f Ps [] (.slice none 0 0) pgV fs fV st sV (-1) X w'
set_option maxRecDepth 100000 in
set_option maxHeartbeats 4000000 in
theorem flush2_c (w0:World) (o p f:Nat) (Ps:List (List ByteArray × Value)) (pg:List ByteArray) (pv pgV:Value) (fs:List Value) (fV:Value) (st:List Nat) (sV:Value) (fi:Int) (X:List Pc) (w:World) (h:LyM w0 o p f Ps pg pv pgV fs fV st sV fi X w) (hl:Ps.length ≤ 1000000000) :
  Calls Tryz.prog 103 #[.pointer (some ⟨o,0,none⟩),.pointer (some ⟨p,0,none⟩),.pointer (some ⟨f,0,none⟩)] w (FlP2 w0 o p f (Ps ++ [(pg,pv)]) (fs ++ [.int .i64 fi]) st sV X):=by
 obtain ⟨i1,hi1,hy0,hy1,hy2⟩:=info_parts (show (Tryz.prog.info? 31).map (fun i=>(i.zero,i.size,i.bytes)) = some (some (.slice none 0 0),1,24) by kernel_rfl)
 obtain ⟨i2,hi2,hx0,hx1,hx2⟩:=info_parts (show (Tryz.prog.info? 3).map (fun i=>(i.zero,i.size,i.bytes)) = some (some (.int .i64 0),1,8) by kernel_rfl)
 obtain ⟨⟨c0,c1,c2,c3,c4⟩,k1,k2,k3⟩:=h.cells
 obtain ⟨⟨A1,q1,rfl⟩,⟨A2,q2,rfl⟩,⟨A3,q3,rfl⟩,⟨A4,q4,rfl⟩⟩:=h.form
 have hne:=h.ne
 have HNE:=Lib.hid hne
 have hfl:=h.fl
 have H1:=Lib.hid (MR.pick (a:=[(9,pg.map Value.string,.slice A1 pg.length q1)]) h.mr)
 clear h
 obtain ⟨n,hn⟩:∃ n,Ps.length = n:=⟨_,rfl⟩
 have HN:=Lib.hid (show (Ps.map (·.2)).length = n by rw [List.length_map]; exact hn)
 rw [hfl,hn] at H1 c1
 rw [hn] at c0 hl hfl
 have HF:=Lib.hid hfl
 generalize pg.length = m at *
 generalize st.length = sn at *
 clear hfl hn
 go_enter Tryz.func103,Tryz.ntmps103
 go_upto_region 1 with (at_builtin; (refine wpList_mrPush rfl _ _ _ rfl 31 i1 _ 24 Tryz.underlying53 hi1 hy0 hy1 hy2 rfl _ (.slice A2 n q2) (Ps.map (·.2)) n HN.out rfl (H1.out.alloc (.cells #[.slice A1 m q1] 31)) (.slice A1 m q1) rfl w.heap.size _ _ (heap_alloc_new w _) rfl (by unfold maxLen; omega) (by omega) ?_); intro g7 cap7 w7 H7; have d0:=(H7.cell (p:=(o,#[.slice A2 n q2,.slice A3 n q3,.slice A4 sn q4],102)) (by simp)).1 0; have f0:=(H7.cell (p:=(o,#[.slice A2 n q2,.slice A3 n q3,.slice A4 sn q4],102)) (by simp)).2 0)
 have HP:=Lib.hid (MR.pick (a:=[(31,Ps.map (·.2) ++ [.slice A1 m q1],.slice (some ⟨g7,0,none⟩) (n + 1) cap7),(9,pg.map Value.string,.slice A1 m q1)]) (H7.set (i:=0) (.slice (some ⟨g7,0,none⟩) (n + 1) cap7) (fun q hq=>by
  simp only [List.mem_cons] at hq
  rcases hq with rfl | rfl | hq
  ·exact fun e=>HNE.out.1 e.symm
  ·exact fun e=>HNE.out.2.1 e.symm
  ·exact (HNE.out.2.2.2 q hq).1)))
 clear H7 H1 d0 f0 c0 c1 c2 c3 c4 k1 k2 k3
 generalize w7.setCell ⟨o,0,none⟩ (.slice (some ⟨g7,0,none⟩) (n + 1) cap7) = w8 at *
 obtain ⟨a8,b8⟩:=HP.out.cell (p:=(o,#[.slice (some ⟨g7,0,none⟩) (n + 1) cap7,.slice A3 n q3,.slice A4 sn q4],102)) (by simp)
 have a1:w8.cell? ⟨o,1,none⟩ = some (.slice A3 n q3):=a8 1
 have a4:w8.cell? ⟨f,0,none⟩ = some (.int .i64 fi):=(HP.out.cell (p:=(f,#[.int .i64 fi],3)) (by simp)).1 0
 clear a8
 go_upto_region 2 with (at_builtin; (refine wpList_mrPush rfl _ _ _ rfl 3 i2 _ 8 Tryz.underlying22 hi2 hx0 hx1 hx2 rfl _ (.slice A3 n q3) fs n HF.out rfl (HP.out.alloc (.cells #[.int .i64 fi] 3)) (.int .i64 fi) rfl w8.heap.size _ _ (heap_alloc_new w8 _) rfl (by unfold maxLen; omega) (by omega) ?_); intro g9 cap9 w9 H9; have d1:=(H9.cell (p:=(o,#[.slice (some ⟨g7,0,none⟩) (n + 1) cap7,.slice A3 n q3,.slice A4 sn q4],102)) (by simp)).1 1; have f1:=(H9.cell (p:=(o,#[.slice (some ⟨g7,0,none⟩) (n + 1) cap7,.slice A3 n q3,.slice A4 sn q4],102)) (by simp)).2 1)
 have HQ:=Lib.hid (H9.set (i:=1) (.slice (some ⟨g9,0,none⟩) (n + 1) cap9) (fun q hq=>by
  simp only [List.mem_cons] at hq
  rcases hq with rfl | rfl | hq
  ·exact fun e=>HNE.out.1 e.symm
  ·exact fun e=>HNE.out.2.1 e.symm
  ·exact (HNE.out.2.2.2 q hq).1))
 clear H9 HP d1 f1 a1 a4 b8
 generalize w9.setCell ⟨o,1,none⟩ (.slice (some ⟨g9,0,none⟩) (n + 1) cap9) = wA at *
 have hp:=MR.p2 HQ.out
 have hp2:=hp.set (i:=0) (.slice none 0 0) (fun q hq=>by
  simp only [List.mem_cons] at hq
  rcases hq with rfl | rfl | hq
  ·exact HNE.out.1
  ·exact fun e=>HNE.out.2.2.1 e.symm
  ·exact (HNE.out.2.2.2 q hq).2.1)
 have hp3:=(MR.p3 hp2).set (i:=0) (.int .i64 (-1)) (fun q hq=>by
  simp only [List.mem_cons] at hq
  rcases hq with rfl | rfl | hq
  ·exact HNE.out.2.2.1
  ·exact HNE.out.2.1
  ·exact (HNE.out.2.2.2 q hq).2.2)
 have HZ:=Lib.hid (MR.p2 (MR.p3' hp3))
 have e0:wA.cell? ⟨p,0,none⟩ = some (.slice A1 m q1):=(HQ.out.cell (p:=(p,#[.slice A1 m q1],31)) (by simp)).1 0
 have e1:=(HQ.out.cell (p:=(p,#[.slice A1 m q1],31)) (by simp)).2 0
 have e2:(wA.setCell ⟨p,0,none⟩ (.slice none 0 0)).cell? ⟨f,0,none⟩ = some (.int .i64 fi):=(hp2.cell (p:=(f,#[.int .i64 fi],3)) (by simp)).1 0
 have e3:=(hp2.cell (p:=(f,#[.int .i64 fi],3)) (by simp)).2 0
 clear hp hp2 hp3 HQ
 go_wp2
 go_end0
 refine ⟨rfl,.slice (some ⟨g7,0,none⟩) (n + 1) cap7,.slice (some ⟨g9,0,none⟩) (n + 1) cap9,?_,?_,HNE.out⟩
 ·have h:=HZ.out.nil 9
  refine (h.perm ?_)
  simp only [List.map_append,List.map_cons,List.map_nil]
  refine List.Perm.cons _ ?_
  exact (List.Perm.swap _ _ _).trans (((List.perm_append_singleton _ (_ :: _)).symm.cons _).cons _)
 ·rw [List.length_append,HF.out,List.length_append]
  have:=HN.out
  rw [List.length_map] at this
  rw [this]
  rfl
def LayP2 (w:World) (l:List Blk) (e:Ending) (w':World):Prop:=∃ (Ps:List (List ByteArray × Value)) (pgV fV sV:Value),e = .returned (.agg #[pgV,fV,sV]) ∧ Ps.map (·.1) = pagesB l ∧ (frsB l).length = Ps.length ∧
 MR w ((31,Ps.map (·.2),pgV) :: (3,(layB l [] [] []).2.2.map (fun k:Nat=>Value.int .i64 (k:Int)),sV) :: (3,frsB l,fV) :: Ps.map (fun q=>(9,q.1.map Value.string,q.2))) [] w'
set_option maxRecDepth 100000 in
set_option maxHeartbeats 16000000 in
theorem Lay2_c {F:Nat → Prop} (l:List BkT) (A:Option Addr) (c M:Nat) (w:World) (h:BkL w F l (.slice A l.length c)) (hgd:∀ x ∈ l,GoodB x.1) (hok:∀ x ∈ l,BkOk x.1) (hM:∀ x ∈ l,x.1.lines.length ≤ M) (hM1:M ≤ 1000000) (hLM:l.length * (M + 2) ≤ 1000000000) :
  Calls Tryz.prog 52 #[.slice A l.length c] w (LayP2 w (l.map (·.1))):=by
 obtain ⟨i0,hi0,hz0,hz1,hz2⟩:=info_parts (show (Tryz.prog.info? 9).map (fun i=>(i.zero,i.size,i.bytes)) = some (some (.string ⟨#[]⟩),1,16) by kernel_rfl)
 obtain ⟨i2,hj2,hx0,hx1,hx2⟩:=info_parts (show (Tryz.prog.info? 3).map (fun i=>(i.zero,i.size,i.bytes)) = some (some (.int .i64 0),1,8) by kernel_rfl)
 have HH:=Lib.hid h
 have HGD:=Lib.hid hgd
 have HOK:=Lib.hid hok
 have HM:=Lib.hid hM
 obtain ⟨L,hL⟩:∃ L,l.length = L:=⟨_,rfl⟩
 have HL:=Lib.hid hL
 have m0:=((((MR.start w).new #[.slice none 0 0,.slice none 0 0,.slice none 0 0] 102).new #[.slice none 0 0,.slice none 0 0,.slice none 0 0] 102).new #[.slice none 0 0] 31).new #[.int .i64 (-1)] 3
 have m1:=(((m0.nil 3).nil 3).nil 31).nil 9
 clear h hgd hok hM m0
 go_enter Tryz.func52,Tryz.ntmps52
 go_upto_region 4 with (fail)
 generalize hW:(((w.alloc (.cells #[.slice none 0 0,.slice none 0 0,.slice none 0 0] 102)).alloc (.cells #[.slice none 0 0,.slice none 0 0,.slice none 0 0] 102)).alloc (.cells #[.slice none 0 0] 31)).alloc (.cells #[.int .i64 (-1)] 3) = W0 at *
 simp only [World.size_alloc] at m1
 obtain ⟨o,ho⟩:∃ o,w.heap.size + 1 = o:=⟨_,rfl⟩
 obtain ⟨p,hp⟩:∃ p,o + 1 = p:=⟨_,rfl⟩
 obtain ⟨f,hf⟩:∃ f,p + 1 = f:=⟨_,rfl⟩
 rw [ho,hp,hf] at m1 ⊢
 have hw0:w.heap.size < o:=by omega
 have G0:=Lib.hid (show LyM w o p f [] [] (.slice none 0 0) (.slice none 0 0) [] (.slice none 0 0) [] (.slice none 0 0) (-1) [(w.heap.size,#[.slice none 0 0,.slice none 0 0,.slice none 0 0],102)] W0 from
  ⟨m1.less fun q hq=>by
   simp only [List.mem_cons,List.not_mem_nil,or_false] at hq ⊢
   rcases hq with h | h | h | h <;> simp [h],rfl,by omega,by omega,by omega,fun x hx=>by
   rw [List.mem_singleton] at hx
   subst hx
   exact ⟨by dsimp only; omega,by dsimp only; omega,by dsimp only; omega⟩⟩)
 clear m1 ho hp hf hW
 rw [hL]
 rw [hL] at HH hLM
 clear hL
 have hL9:L ≤ 1000000000:=Nat.le_trans (Nat.le_mul_of_pos_right L (by omega)) hLM
 go_wp2
 go_loopw [15] (fun iv wr=>∃ (i:Nat) (Ps:List (List ByteArray × Value)) (pg:List ByteArray) (pv pgV:Value) (fs:List Value) (fV:Value) (st:List Nat) (sV:Value) (fi:Int),i ≤ L ∧ iv = .int .i64 i ∧ pg.length ≤ 54 ∧ Ps.length ≤ i * (M + 2) ∧ st.length = i
  ∧ Hid (layB ((l.drop i).map (·.1)) (Ps.map (·.1)) pg st = layB (l.map (·.1)) [] [] []) ∧ Hid (layF ((l.drop i).map (·.1)) i (Ps.map (·.1)) pg (fs,fi) = layF (l.map (·.1)) 0 [] [] ([],-1)) ∧ Hid (LyM w o p f Ps pg pv pgV fs fV st sV fi [(w.heap.size,#[.slice none 0 0,.slice none 0 0,.slice none 0 0],102)] wr)) (fun iv _=>L - (intOf iv).toNat)
 case atStart=>exact ⟨0,[],[],_,_,[],_,[],_,-1,Nat.zero_le _,rfl,by decide,Nat.zero_le _,rfl,rfl,rfl,G0.out⟩
 case round=>
  clear G0
  obtain ⟨i,Ps,pg,pv,pgV,fs,fV,st,sV,fi,hi,rfl,hpl,hPl,hsl,HY,HYF,HG⟩:=hrel
  have HSI:=Lib.hid hsl
  have hsi:st.length ≤ 1000000000:=by omega
  clear hsl
  by_cases hlt:i < L
  ·have hi2:i < l.length:=by rw [HL.out]; exact hlt
   obtain ⟨b,off,e0,hFb,c0,c1,c2,c3,A1,q1,A2,n2,q2,e1,e2⟩:=(HH.out.below HG.out.mr.bel).at_ i hi2
   subst e0
   have hmem:=List.getElem_mem hi2
   have hbw:b < wr.heap.size:=Nat.lt_of_lt_of_le (HH.out.lt b hFb) HG.out.mr.size
   have HX:=Lib.hid (And.intro (HGD.out _ hmem) (And.intro (HOK.out _ hmem) (HM.out _ hmem)))
   have HLN:=Lib.hid (HH.out.ln _ hmem)
   have HKD:=Lib.hid (HH.out.kd _ hmem)
   have HDR:=Lib.hid (show (l.drop i).map (·.1) = (l[i]'hi2).1 :: (l.drop (i + 1)).map (·.1) by rw [List.drop_eq_getElem_cons hi2,List.map_cons])
   have HHD:=Lib.hid (fun (W:World) (hb:Below w.heap.size w W)=>head_c l (some ⟨b,off,none⟩) c i W (by rw [HL.out]; exact HH.out.below hb) hi2 (by rw [HL.out]; omega) HOK.out)
   rw [e1] at c1 HLN
   rw [e2] at c2 HKD
   rw [HL.out] at HHD
   clear e1 e2 hmem hFb
   have hnd:=need_le (b:=(l[i]'hi2).1) (r:=(l.drop (i + 1)).map (·.1)) (M:=M) (HM.out _ (List.getElem_mem hi2)) (fun y hy=>by
    obtain ⟨z,hz,rfl⟩:=List.mem_map.1 hy
    exact HM.out z (List.mem_of_mem_drop hz))
   obtain ⟨rest,hrest⟩:∃ rest,(l.drop (i + 1)).map (·.1) = rest:=⟨_,rfl⟩
   have HRS:=Lib.hid hrest
   rw [hrest] at HDR HHD hnd
   rw [HDR.out] at HY HYF
   clear hrest HDR
   generalize (l[i]'hi2).1 = x at *
   obtain ⟨n,hn⟩:∃ n,x.lines.length = n:=⟨_,rfl⟩
   have HN:=Lib.hid hn
   rw [hn] at c1 HLN HX
   obtain ⟨nd,hnq⟩:∃ nd,needB x rest = nd:=⟨_,rfl⟩
   have HND:=Lib.hid hnq
   rw [hnq] at hnd
   simp only [hnq] at HHD
   clear hn hnq
   have hG1:=HG.out.new (bkA x (.slice A1 n q1) (.slice A2 n2 q2)) 99
   unfold bkA at hG1
   clear HG
   go_upto_region 8 with (fail)
   generalize hWB:wr.alloc (.cells #[.int .i64 (x.kind:Int),.slice A1 n q1,.slice A2 n2 q2,.string x.name] 99) = w1 at *
   have hBw:wr.heap.size < w1.heap.size:=by rw [← hWB]; simp
   have hww:=hG1.mr.size
   generalize wr.heap.size = B at *
   have G1:=Lib.hid hG1
   clear hG1 hWB c0 c1 c2 c3
   have HBC:=Lib.hid (fun (W:World) (h:W.heap[B]? = some (.cells #[.int .i64 (x.kind:Int),.slice A1 n q1,.slice A2 n2 q2,.string x.name] 99 (0,0)))=>show W.cell? ⟨B,0,none⟩ = some (.int .i64 (x.kind:Int)) ∧ W.cell? ⟨B,1,none⟩ = some (.slice A1 n q1) ∧ W.cell? ⟨B,2,none⟩ = some (.slice A2 n2 q2) ∧ W.cell? ⟨B,3,none⟩ = some (.string x.name) from
    ⟨(str_cells h).1 0,(str_cells h).1 1,(str_cells h).1 2,(str_cells h).1 3⟩)
   obtain ⟨b0,b1,b2,b3⟩:=HBC.out w1 (G1.out.mr.prv (B,#[.int .i64 (x.kind:Int),.slice A1 n q1,.slice A2 n2 q2,.string x.name],99) (by simp)).1
   have HGP:=Lib.hid (Gap_c x (.slice A1 n q1) (.slice A2 n2 q2) w1)
   go_wp2_with fail
   refine HGP.out.mono ?_
   rintro e w2 ⟨rfl,hb2⟩
   have G2:=Lib.hid (G1.out.below hb2)
   clear hb2 G1 HGP b0 b1 b2 b3
   go_upto_region 9 with (fail)
   obtain ⟨⟨A3,q3,rfl⟩,⟨A4,q4,rfl⟩,⟨A5,q5,rfl⟩,⟨A6,q6,rfl⟩⟩:=G2.out.form
   obtain ⟨m,hm⟩:∃ m,pg.length = m:=⟨_,rfl⟩
   have HMM:=Lib.hid hm
   have hpe:pg = [] ↔ m = 0:=by rw [← hm,List.length_eq_zero_iff]
   rw [hm] at G2 hpl
   clear hm
   have hgp:x.gap ≤ 2:=by unfold Blk.gap; split <;> omega
   generalize hgx:x.gap = gp at *
   have HGX:=Lib.hid hgx
   clear hgx
   go_cut [35] (fun v wx=>v = .bool (decide (0 < m ∧ 54 < m + gp + nd)) ∧ Hid (LyM w o p f Ps pg (.slice A3 m q3) (.slice A4 Ps.length q4) fs (.slice A5 fs.length q5) st (.slice A6 st.length q6) fi [(B,#[.int .i64 (x.kind:Int),.slice A1 n q1,.slice A2 n2 q2,.string x.name],99),(w.heap.size,#[.slice none 0 0,.slice none 0 0,.slice none 0 0],102)] wx))
   case first=>
    have cp:=G2.out.cells.1.2.2.2.1
    by_cases h0:m = 0
    ·subst h0
     go_region
     go_wp2
     go_meet
     exact ⟨rfl,G2.out.drew⟩
    ·have hm0:0 < m:=by omega
     have hlp:p < w2.heap.size:=G2.out.mr.plt (p:=(p,#[.slice A3 m q3],31)) (by simp)
     have s0:∀ (d:Nat) (os:Array Obj),(Sort.grow (redrawn w2 d) os).cell? ⟨p,0,none⟩ = some (.slice A3 m q3):=fun d os=>((below_regrown w2 d os).cell hlp).trans cp
     have hwz:=G2.out.mr.size
     have HHE:=Lib.hid (fun d os=>HHD.out (Sort.grow (redrawn w2 d) os) (G2.out.mr.bel.trans ((below_regrown w2 d os).mono hwz)))
     have hpq:∀ t:Prop,(0 < m ∧ t) ↔ t:=fun t=>⟨fun h=>h.2,fun h=>⟨by omega,h⟩⟩
     by_cases ht:54 < m + gp + nd
     ·have ht2:(54:Int) < (m:Int) + (gp:Int) + (nd:Int):=by omega
      have HT:=Lib.hid (show decide (0 < m ∧ 54 < m + gp + nd) = true from decide_eq_true ⟨by omega,ht⟩)
      refine wp_region_quiet_below (by kernel_rfl) (by kernel_rfl) ?_
      repeat (first | go_big_quiet_step ((go_at_call 105; exact Calls.regrown_of (HHE.out _ _))) | quiet_step ((go_at_call 105; exact Calls.regrown_of (HHE.out _ _))))
      refine wpQuiet_nil ?_
      intro wy hwy
      have hby:=below_of_regrown hwy
      clear hwy
      go_wp2
      go_meet
      exact ⟨by rw [HT.out],G2.out.below hby⟩
     ·have ht2:¬ (54:Int) < (m:Int) + (gp:Int) + (nd:Int):=by omega
      have HT:=Lib.hid (show decide (0 < m ∧ 54 < m + gp + nd) = false from decide_eq_false fun h=>ht h.2)
      refine wp_region_quiet_below (by kernel_rfl) (by kernel_rfl) ?_
      repeat (first | go_big_quiet_step ((go_at_call 105; exact Calls.regrown_of (HHE.out _ _))) | quiet_step ((go_at_call 105; exact Calls.regrown_of (HHE.out _ _))))
      refine wpQuiet_nil ?_
      intro wy hwy
      have hby:=below_of_regrown hwy
      clear hwy
      go_wp2
      go_meet
      exact ⟨by rw [HT.out],G2.out.below hby⟩
   case rest=>
    clear G2 HHD
    obtain ⟨rfl,G2⟩:=hcut
    have hPz:Ps.length ≤ 1000000000:=by
     have:=Nat.mul_le_mul_right (M + 2) (show i ≤ L by omega)
     omega
    go_upto_if 35 with (fail)
    go_cut [] (fun wx=>∃ (P1:List (List ByteArray × Value)) (pg1:List ByteArray) (pv1 pgV1:Value) (fs1:List Value) (fV1:Value) (fi1:Int),P1.map (·.1) = (if topB x rest pg = true ∧ ¬ pg = [] then Ps.map (·.1) ++ [pg] else Ps.map (·.1)) ∧ pg1 = (if topB x rest pg = true then [] else pg) ∧ P1.length ≤ Ps.length + 1 ∧ Hid ((fs1,fi1) = (if topB x rest pg = true ∧ ¬ pg = [] then (fs ++ [.int .i64 fi],-1) else (fs,fi):FrQ)) ∧ Hid (LyM w o p f P1 pg1 pv1 pgV1 fs1 fV1 st (.slice A6 st.length q6) fi1 [(B,#[.int .i64 (x.kind:Int),.slice A1 n q1,.slice A2 n2 q2,.string x.name],99),(w.heap.size,#[.slice none 0 0,.slice none 0 0,.slice none 0 0],102)] wx))
    case first=>
     have htop:topB x rest pg = true ↔ m = 0 ∨ 54 < m + gp + nd:=by
      rw [putB_top,hpe,HMM.out,HGX.out,HND.out]
     by_cases ht:0 < m ∧ 54 < m + gp + nd
     ·have HT:=Lib.hid (show decide (0 < m ∧ 54 < m + gp + nd) = true from decide_eq_true ht)
      have hF:=flush2_c w o p f Ps pg (.slice A3 m q3) (.slice A4 Ps.length q4) fs (.slice A5 fs.length q5) st (.slice A6 st.length q6) fi _ wc G2.out hPz
      have HFL:=Lib.hid hF
      have HQ:=Lib.hid (show topB x rest pg = true ∧ ¬ pg = [] from ⟨htop.2 (.inr ht.2),fun e=>by have:=hpe.1 e; omega⟩)
      clear hF htop
      rw [HT.out]
      go_wp2_with fail
      refine HFL.out.mono ?_
      rintro e w3 ⟨rfl,pgV1,fV1,G3⟩
      go_wp2
      go_meet
      exact ⟨Ps ++ [(pg,.slice A3 m q3)],[],_,pgV1,_,fV1,-1,by rw [if_pos HQ.out]; simp,by rw [if_pos HQ.out.1],by simp,Lib.hid (by rw [if_pos HQ.out]),Lib.hid G3⟩
     ·have HT:=Lib.hid (show decide (0 < m ∧ 54 < m + gp + nd) = false from decide_eq_false ht)
      have HQ:=Lib.hid (show ¬ (topB x rest pg = true ∧ ¬ pg = []) ∧ (topB x rest pg = true → pg = []) from ⟨fun h=>ht (by
       have h1:=htop.1 h.1
       have h2:¬ m = 0:=fun e=>h.2 (hpe.2 e)
       omega),fun h=>hpe.2 (by have h1:=htop.1 h; omega)⟩)
      clear htop
      rw [HT.out]
      go_wp2
      go_meet
      exact ⟨Ps,pg,_,_,fs,_,fi,by rw [if_neg HQ.out.1],by
       by_cases h:topB x rest pg = true
       ·rw [if_pos h]; exact HQ.out.2 h
       ·rw [if_neg h],by omega,Lib.hid (by rw [if_neg HQ.out.1]),G2.out⟩
    case rest=>
     clear G2
     obtain ⟨P1,pg1,pv1,pgV1,fs1,fV1,fi1,HP1,HG1,hP1,HF1,G3⟩:=hcut
     have HP1:=Lib.hid HP1
     have HG1:=Lib.hid HG1
     obtain ⟨⟨A7,q7,rfl⟩,⟨A8,q8,rfl⟩,⟨A9,q9,rfl⟩,_⟩:=G3.out.form
     have hp54:pg1.length ≤ 54:=by
      rw [HG1.out]
      split
      ·decide
      ·rw [HMM.out]; exact hpl
     have hp0:pg1 = [] ↔ pg1.length = 0:=List.length_eq_zero_iff.symm
     obtain ⟨m1,hm1⟩:∃ m1,pg1.length = m1:=⟨_,rfl⟩
     have HM1:=Lib.hid hm1
     rw [hm1] at G3 hp54 hp0
     clear hm1
     have cp:=G3.out.cells.1.2.2.2.1
     have HTE:=Lib.hid (show topB x rest pg = true ↔ m1 = 0 by
      rw [← hp0,HG1.out]
      by_cases h:topB x rest pg = true
      ·rw [if_pos h]; simp [h]
      ·rw [if_neg h]
       refine ⟨fun k=>absurd k h,fun k=>?_⟩
       exact absurd (putB_top.2 (.inl k)) h)
     have HTI:=Lib.hid (fun (h:m1 = 0)=>show Hid ((i:Int) = (if topB x rest pg = true then (i:Int) else fi1)) from Lib.hid (by rw [if_pos (HTE.out.2 h)]))
     have HTN:=Lib.hid (fun (h:¬ m1 = 0)=>show Hid (fi1 = (if topB x rest pg = true then (i:Int) else fi1)) from Lib.hid (by rw [if_neg (fun k=>h (HTE.out.1 k))]))
     go_upto_if 40 with (fail)
     clear cp
     go_cut [] (fun wx=>∃ fi2:Int,Hid (fi2 = (if topB x rest pg = true then (i:Int) else fi1)) ∧ Hid (LyM w o p f P1 pg1 (.slice A7 m1 q7) (.slice A8 P1.length q8) fs1 (.slice A9 fs1.length q9) st (.slice A6 st.length q6) fi2 [(B,#[.int .i64 (x.kind:Int),.slice A1 n q1,.slice A2 n2 q2,.string x.name],99),(w.heap.size,#[.slice none 0 0,.slice none 0 0,.slice none 0 0],102)] wx))
     case first=>
      obtain ⟨⟨_,_,_,cp,cf⟩,_,_,kf⟩:=G3.out.cells
      have kf0:=kf 0
      clear kf
      by_cases h0:m1 = 0
      ·subst h0
       go_wp2
       go_meet
       exact ⟨i,HTI.out (by first | rfl | trivial),Lib.hid (G3.out.setF i)⟩
      ·have h01:¬ (m1:Int) = 0:=by omega
       go_wp2
       go_meet
       exact ⟨fi1,HTN.out h0,G3⟩
     case rest=>
      clear G3
      obtain ⟨fi2,HF2,G3⟩:=hcut
      obtain ⟨d,hd⟩:∃ d,(if m1 = 0 then 0 else 1) = d:=⟨_,rfl⟩
      have hmin:min (m1:Int) 1 = (d:Int):=by rw [← hd]; split <;> omega
      obtain ⟨gz,hgz⟩:∃ gz,gp * d = gz:=⟨_,rfl⟩
      have hgz2:gz ≤ 2:=by
       rw [← hgz,← hd]
       split <;> omega
      have hmul:(gp:Int) * (d:Int) = (gz:Int):=by rw [← hgz]; push_cast; rfl
      have HGZ:=Lib.hid (show gz = if pg1 = [] then 0 else gp by
       rw [← hgz,← hd]
       by_cases h0:m1 = 0
       ·rw [if_pos h0,if_pos (hp0.2 h0)]; rfl
       ·rw [if_neg h0,if_neg (fun h=>h0 (hp0.1 h)),Nat.mul_one])
      clear hgz hd
      have cp:=G3.out.cells.1.2.2.2.1
      go_wp2
      go_loopw [47] (fun kv wr=>∃ (k:Nat) (cur:List ByteArray) (cv:Value),k ≤ gz ∧ kv = .int .i64 k ∧ Hid (cur = pg1 ++ List.replicate k (⟨#[]⟩:ByteArray)) ∧ Hid (LyM w o p f P1 cur cv (.slice A8 P1.length q8) fs1 (.slice A9 fs1.length q9) st (.slice A6 st.length q6) fi2 [(B,#[.int .i64 (x.kind:Int),.slice A1 n q1,.slice A2 n2 q2,.string x.name],99),(w.heap.size,#[.slice none 0 0,.slice none 0 0,.slice none 0 0],102)] wr)) (fun kv _=>gz - (intOf kv).toNat)
      case atStart=>exact ⟨0,pg1,_,Nat.zero_le _,rfl,Lib.hid (List.append_nil _).symm,G3⟩
      case round=>
       clear G3 cp
       obtain ⟨k,cur,cv,hk,rfl,HC,HG⟩:=hrel
       obtain ⟨⟨A3',q3',rfl⟩,_⟩:=HG.out.form
       have cp:=HG.out.cells.1.2.2.2.1
       have hcl:cur.length = m1 + k:=by rw [HC.out,List.length_append,List.length_replicate,HM1.out]
       have HCL:=Lib.hid (show (cur.map Value.string).length = m1 + k by rw [List.length_map]; exact hcl)
       rw [hcl] at HG cp
       clear hcl
       by_cases hlk:k < gz
       ·-- DONE
        go_upto_region 16 with (at_builtin; (refine wpList_mrPush rfl _ _ _ rfl 9 i0 _ 16 Tryz.underlying31 hi0 hz0 hz1 hz2 rfl _ (.slice A3' (m1 + k) q3') (cur.map Value.string) (m1 + k) HCL.out rfl (HG.out.mr.alloc (.cells #[.string ⟨#[]⟩] 9)) (.string ⟨#[]⟩) rfl wr.heap.size _ _ (heap_alloc_new wr _) rfl (by unfold maxLen; omega) (by omega) ?_); intro g7 cap7 w7 H7; have d0:=(H7.cell (p:=(p,#[.slice A3' (m1 + k) q3'],31)) (by simp)).1 0; have f0:=(H7.cell (p:=(p,#[.slice A3' (m1 + k) q3'],31)) (by simp)).2 0)
        have G7:=Lib.hid (LyM.page (pg2:=cur ++ [⟨#[]⟩]) (by rw [List.map_append]; exact H7) HG.out.fl HG.out.ne)
        have HC7:=Lib.hid (show cur ++ [⟨#[]⟩] = pg1 ++ List.replicate (k + 1) (⟨#[]⟩:ByteArray) by rw [HC.out,List.append_assoc,List.replicate_succ'])
        clear H7 d0 f0 HG cp HC HCL
        go_wp2
        go_roundw
        case rel=>exact ⟨k + 1,_,_,by omega,intNum,HC7,G7⟩
        case measure=>simp [intOf]; omega
       ·have hkz:k = gz:=by omega
        subst hkz
        have HPA:=Lib.hid (show cur = (if topB x rest pg = true then [] else pg ++ List.replicate x.gap (⟨#[]⟩:ByteArray)) by
         rw [HC.out,HGZ.out,HG1.out,HGX.out]
         by_cases ht:topB x rest pg = true
         ·rw [if_pos ht,if_pos ht,if_pos rfl]; rfl
         ·rw [if_neg ht,if_neg ht,if_neg (fun e=>ht (putB_top.2 (.inl e)))])
        have HRO:=Lib.hid (show RoomOk x 0 (54 - cur.length) ∧ cur.length ≤ 54 by
         rw [HPA.out]
         by_cases ht:topB x rest pg = true
         ·rw [if_pos ht]; exact ⟨room_top x,by decide⟩
         ·have htf:topB x rest pg = false:=by simpa using ht
          rw [if_neg ht]
          refine ⟨room_first htf,?_⟩
          have:¬ (pg = [] ∨ 54 < pg.length + x.gap + needB x rest):=fun h=>ht (putB_top.2 h)
          rw [List.length_append,List.length_replicate]
          omega)
        have hcl:cur.length = m1 + k:=by rw [HC.out,List.length_append,List.length_replicate,HM1.out]
        have HRQ:=HRO
        rw [hcl] at HRO
        have hc54:=HRO.out.2
        clear HC HCL HGZ HG1 HM1 hmul hmin
        generalize m1 + k = mk at *
        obtain ⟨⟨co0,_,co2,cp,_⟩,fo,_,_⟩:=HG.out.cells
        have hP1z:P1.length ≤ 1000000000:=by
         have h1:=Nat.mul_le_mul_right (M + 2) (show i + 1 ≤ L by omega)
         rw [Nat.add_mul] at h1
         omega
        have HSL:=Lib.hid (show (st.map (fun k:Nat=>Value.int .i64 (k:Int))).length = st.length from List.length_map ..)
        obtain ⟨p1,hp1⟩:∃ p1,P1.length = p1:=⟨_,rfl⟩
        have HP1L:=Lib.hid hp1
        rw [hp1] at HG co0 hP1z
        clear hp1
        go_upto_region 18 with (at_builtin; (refine wpList_mrPush rfl _ _ _ rfl 3 i2 _ 8 Tryz.underlying22 hj2 hx0 hx1 hx2 rfl _ (.slice A6 st.length q6) (st.map (fun k:Nat=>Value.int .i64 (k:Int))) st.length HSL.out rfl ((MR.pick (a:=[(9,cur.map .string,.slice A3' mk q3'),(31,P1.map (·.2),.slice A8 p1 q8),(3,fs1,.slice A9 fs1.length q9)]) HG.out.mr).alloc (.cells #[.int .i64 (p1:Int)] 3)) (.int .i64 (p1:Int)) rfl wr.heap.size _ _ (heap_alloc_new wr _) rfl (by unfold maxLen; omega) (by omega) ?_); intro g8 cap8 w8 H8; have d2:=(H8.cell (p:=(o,#[.slice A8 p1 q8,.slice A9 fs1.length q9,.slice A6 st.length q6],102)) (by simp)).1 2; have f2:=(H8.cell (p:=(o,#[.slice A8 p1 q8,.slice A9 fs1.length q9,.slice A6 st.length q6],102)) (by simp)).2 2)
        have G8:=Lib.hid (LyM.starts (st2:=st ++ [p1]) (by rw [List.map_append]; exact H8) HG.out.fl HG.out.ne)
        clear H8 d2 f2 HG cp co0 co2 fo
        generalize w8.setCell ⟨o,2,none⟩ (.slice (some ⟨g8,0,none⟩) (st.length + 1) cap8) = w9 at *
        generalize Value.slice (some ⟨g8,0,none⟩) (st.length + 1) cap8 = s9 at *
        obtain ⟨fq,hfq⟩:∃ fq,fillB x (n + 1) 0 (P1.map (·.1)) cur = fq:=⟨_,rfl⟩
        have HFQ:=Lib.hid hfq
        have hn1:1 ≤ n:=by rw [← HN.out]; exact HX.out.1.pos
        have hnM:n ≤ M:=HX.out.2.2
        obtain ⟨bl,ol,rfl⟩:∃ bl ol,A1 = some ⟨bl,ol,none⟩:=by
         obtain ⟨A,cc,e,_,_,h3⟩:=HLN.out
         injection e with e1
         subst e1
         obtain ⟨b',o',_,e,_⟩:=h3 (by rw [HN.out]; omega)
         exact ⟨b',o',e⟩
        have hnq:n ≤ q1 ∧ q1 ≤ 9223372036854775807:=by
         obtain ⟨A,cc,e,h1,h2,_⟩:=HLN.out
         injection e with _ _ e3
         subst e3
         rw [HN.out] at h1
         exact ⟨h1,h2⟩
        clear hfq
        go_wp2
        go_loopw [10] (fun fv wr=>∃ (f0:Nat) (P2:List (List ByteArray × Value)) (g2:List ByteArray) (v2 pV2:Value) (fs2:List Value) (fV2:Value) (fi3:Int),fv = .int .i64 f0 ∧ f0 < n ∧ g2.length ≤ 54 ∧ P2.length ≤ p1 + f0 ∧ Hid (RoomOk x f0 (54 - g2.length)) ∧ Hid (∃ mm,n - f0 < mm ∧ fillB x mm f0 (P2.map (·.1)) g2 = fq) ∧ Hid (p1 ≤ P2.length ∧ (fs2,fi3) = frN (P2.length - p1) fs1 fi2)
         ∧ Hid (LyM w o p f P2 g2 v2 pV2 fs2 fV2 (st ++ [p1]) s9 fi3 [(B,#[.int .i64 (x.kind:Int),.slice (some ⟨bl,ol,none⟩) n q1,.slice A2 n2 q2,.string x.name],99),(w.heap.size,#[.slice none 0 0,.slice none 0 0,.slice none 0 0],102)] wr)) (fun fv _=>n - (intOf fv).toNat)
        case atStart=>exact ⟨0,P1,cur,_,_,fs1,_,fi2,rfl,hn1,HRQ.out.2,by rw [HP1L.out]; omega,Lib.hid HRQ.out.1,Lib.hid ⟨n + 1,by omega,HFQ.out⟩,Lib.hid ⟨by rw [HP1L.out]; exact Nat.le_refl _,by rw [HP1L.out,Nat.sub_self]; rfl⟩,G8⟩
        case round=>
         clear G8 HRQ HRO
         obtain ⟨f0,P2,g2,v2,pV2,fs2,fV2,fi3,rfl,hf0,hg54,hP2,HRM,HFB,HFN,HG⟩:=hrel
         obtain ⟨⟨A10,q10,rfl⟩,⟨A11,q11,rfl⟩,⟨A12,q12,rfl⟩,_⟩:=HG.out.form
         obtain ⟨m2,hm2⟩:∃ m2,g2.length = m2:=⟨_,rfl⟩
         have HM2:=Lib.hid hm2
         rw [hm2] at HG hg54 HRM
         clear hm2
         obtain ⟨b0,b1,b2,b3⟩:=HBC.out wr (HG.out.mr.prv (B,#[.int .i64 (x.kind:Int),.slice (some ⟨bl,ol,none⟩) n q1,.slice A2 n2 q2,.string x.name],99) (by simp)).1
         have cp:=HG.out.cells.1.2.2.2.1
         have hr1:1 ≤ f0 + (54 - m2):=by
          rcases HRM.out with ⟨h0,h | h⟩ | ⟨h0,h⟩
          ·have:=least_pos (b:=x) (by rw [HN.out]; exact hn1); omega
          ·omega
          ·omega
         have hst:=stop_c (F:=F) x (some ⟨bl,ol,none⟩) q1 A2 n2 q2 f0 (54 - m2) wr (by rw [HN.out]; exact hf0) hr1 (by omega) HX.out.2.1.1 (HKD.out.below HG.out.mr.bel HH.out.lt) (fun q hq=>Nat.lt_of_lt_of_le (HH.out.lt q hq) HG.out.mr.size) HX.out.2.1.2.1
         have htt:f0 < stopB x f0 (54 - m2) ∧ stopB x f0 (54 - m2) ≤ n ∧ (stopB x f0 (54 - m2) = n ↔ n - f0 ≤ 54 - m2):=by
          by_cases hfit:n - f0 ≤ 54 - m2
          ·have:=stop_fit (b:=x) (f:=f0) (room:=54 - m2) (by rw [HN.out]; exact hfit)
           rw [HN.out] at this
           omega
          ·have:=stopB_brk HX.out.1 HRM.out (by rw [HN.out]; exact hfit)
           rw [HN.out] at this
           omega
         have hr54:((54 - m2:Nat):Int) = 54 - (m2:Int):=by omega
         unfold bkA at hst
         rw [HN.out,hr54] at hst
         have HST:=Lib.hid hst
         obtain ⟨tt,htq⟩:∃ tt,stopB x f0 (54 - m2) = tt:=⟨_,rfl⟩
         have HTQ:=Lib.hid htq
         rw [htq] at HST htt
         clear hst hr1 htq
         go_wp2_with fail
         refine HST.out.mono ?_
         rintro e w3 ⟨rfl,hb3⟩
         have G3:=Lib.hid (HG.out.below hb3)
         clear HST hb3 HG cp b0 b1 b2 b3
         go_upto_region 20 with (fail)
         obtain ⟨c0,c1,c2,c3⟩:=HBC.out w3 (G3.out.mr.prv (B,#[.int .i64 (x.kind:Int),.slice (some ⟨bl,ol,none⟩) n q1,.slice A2 n2 q2,.string x.name],99) (by simp)).1
         have cp:=G3.out.cells.1.2.2.2.1
         obtain ⟨ι,ff,hne,hff,hfS⟩:=family (fun W=>W.cell? ⟨p,0,none⟩ = some (.slice A10 m2 q10) ∧ W.cell? ⟨B,1,none⟩ = some (.slice (some ⟨bl,ol,none⟩) n q1)) w3 ⟨cp,c1⟩
         have r0:∀ q,(ff q).cell? ⟨p,0,none⟩ = some (.slice A10 m2 q10):=fun q=>(hff q).1
         have r1:∀ q,(ff q).cell? ⟨B,1,none⟩ = some (.slice (some ⟨bl,ol,none⟩) n q1):=fun q=>(hff q).2
         have hneW:Nonempty World:=⟨w⟩
         have HFS:=Lib.hid hfS
         have HC3:=Lib.hid (And.intro cp c1)
         have hbq:¬ q1 = f0:=by omega
         have t1:(f0:Int) ≤ (tt:Int):=by omega
         have t2:(tt:Int) ≤ (q1:Int):=by omega
         have hsl:=((HLN.out.below G3.out.mr.bel HH.out.lt).drop_ f0 (by rw [HN.out]; omega) (n - f0) (q1 - f0) (by rw [HN.out]) rfl).take_ (tt - f0) (by rw [List.length_drop,HN.out]; omega)
         have HSL2:=Lib.hid (show Sli strR w3.drew F ((x.lines.drop f0).take (tt - f0)) (.slice (some ⟨bl,ol + f0,none⟩) (tt - f0) (q1 - f0)) by
          rw [show f0 * (Rep.n strR) = f0 from Nat.mul_one f0] at hsl
          exact hsl.drew)
         clear hff hfS hsl cp c0 c1 c2 c3
         refine wp_region_segs2 [5,6] [] [] [([1,3,4],[0,2],5),([],[],6),([],[],7)] (by kernel_rfl) (by kernel_rfl) (fun _ _ _ dd _ h=>by cases dd <;> exact h) (fun W=>∃ p:ι,W = ff p) (HFS.out _ HC3.out) ?_
         refine wpSegs2_step (by simp only [pick,List.getElem?_cons_succ,List.getElem?_cons_zero]; rfl) (by simp only [pick,List.getElem?_cons_succ,List.getElem?_cons_zero]; rfl) rfl (fun K0 hK0 L0 hL0=>?_)
         repeat (first | go_big_quiet_step (fail) | quiet_step (fail))
         refine wpQuiet_nil (hL0 _ ?_)
         repeat (first | go_big_quiet_step (fail) | quiet_step (fail))
         refine wpQuiet_nil ?_
         go_simp
         refine hK0 (fun W=>∃ p:ι,W = ff p) _ _ (fun _ h=>h) (HFS.out _ HC3.out) ?_
         refine wpSegs2_step (by simp only [pick,List.getElem?_cons_succ,List.getElem?_cons_zero]; rfl) (by simp only [pick,List.getElem?_cons_succ,List.getElem?_cons_zero]; rfl) rfl (fun K1 hK1 L1 hL1=>?_)
         repeat (first | go_big_quiet_step (fail) | quiet_step (fail))
         refine wpQuiet_nil (hL1 _ ?_)
         repeat (first | go_big_quiet_step (fail) | quiet_step (fail))
         refine wpQuiet_nil ?_
         refine oper_mrApp _ _ _ rfl 9 i0 _ 16 Tryz.underlying31 hi0 hz0 hz1 hz2 rfl w3.drew (.slice A10 m2 q10) g2 rfl G3.out.drew.mr ((x.lines.drop f0).take (tt - f0)) (some ⟨bl,ol + f0,none⟩) (tt - f0) (q1 - f0) rfl HSL2.out (by rw [List.length_take,List.length_drop,HN.out]; omega) (by rw [HM2.out]; unfold maxLen; omega) (by rw [HM2.out]; omega) ?_
         intro v4 w4 H4
         obtain ⟨⟨A13,q13,hv4⟩,_⟩:=(LyM.page H4 G3.out.fl G3.out.ne).form
         obtain ⟨m5,hm5⟩:∃ m5,(g2 ++ (x.lines.drop f0).take (tt - f0)).length = m5:=⟨_,rfl⟩
         have HM5:=Lib.hid hm5
         rw [hm5] at hv4
         subst hv4
         clear hm5
         have k4:=H4.cell (p:=(p,#[.slice A10 m2 q10],31)) (by simp)
         have d4:w4.cell? ⟨p,0,none⟩ = some (.slice A10 m2 q10):=k4.1 0
         have f4:w4.frozen? ⟨p,0,none⟩ = false:=k4.2 0
         have d5:w4.cell? ⟨B,1,none⟩ = some (.slice (some ⟨bl,ol,none⟩) n q1):=(H4.cell (p:=(B,#[.int .i64 (x.kind:Int),.slice (some ⟨bl,ol,none⟩) n q1,.slice A2 n2 q2,.string x.name],99)) (by simp)).1 1
         refine hK1 (fun W=>∃ p:ι,W = ff p) _ _ (fun _ h=>h) (HFS.out _ ⟨d4,d5⟩) ?_
         have G5:=Lib.hid (LyM.page H4 G3.out.fl G3.out.ne)
         clear H4 G3 k4 HC3
         refine wpSegs2_last (by simp only [pick,List.getElem?_cons_succ,List.getElem?_cons_zero]; rfl) (by simp only [pick,List.getElem?_cons_succ,List.getElem?_cons_zero]; rfl) rfl (by rfl) (fun K2 hK2 L2 hL2=>?_)
         repeat (first | go_big_quiet_step (fail) | quiet_step (fail))
         refine wpQuiet_nil (hL2 _ ?_)
         repeat (first | go_big_quiet_step (fail) | quiet_step (fail))
         refine wpQuiet_nil ?_
         go_simp
         refine hK2 _ _ (wpSegs2_end ?_)
         generalize w4.setCell ⟨p,0,none⟩ (.slice A13 m5 q13) = w5 at *
         clear d4 f4 d5 r0 r1 HFS HSL2
         obtain ⟨b0,b1,b2,b3⟩:=HBC.out w5 (G5.out.mr.prv (B,#[.int .i64 (x.kind:Int),.slice (some ⟨bl,ol,none⟩) n q1,.slice A2 n2 q2,.string x.name],99) (by simp)).1
         by_cases hfit:n - f0 ≤ 54 - m2
         ·obtain rfl:tt = n:=htt.2.2.2 hfit
          have hP2z:P2.length ≤ (i + 1) * (M + 2):=by
           have h1:=HP1L.out
           rw [Nat.add_mul,Nat.one_mul]
           omega
          have hfinF:layF (x :: rest) i (Ps.map (·.1)) pg (fs,fi) = layF rest (i + 1) (P2.map (·.1)) (g2 ++ (x.lines.drop f0).take (tt - f0)) (fs2,fi3):=by
           obtain ⟨mm,h1,h2⟩:=HFB.out
           obtain ⟨m',rfl⟩:∃ m',mm = m' + 1:=⟨mm - 1,by omega⟩
           rw [fillB_end (by rw [HN.out,HM2.out]; exact hfit)] at h2
           have h3:(x.lines.drop f0).take (tt - f0) = x.lines.drop f0:=List.take_of_length_le (by rw [List.length_drop,HN.out]; omega)
           have h4:fq = (P2.map (·.1),g2 ++ x.lines.drop f0):=h2.symm
           show layF rest (i + 1) (fillB x (x.lines.length + 1) 0 (if topB x rest pg = true ∧ ¬ pg = [] then Ps.map (·.1) ++ [pg] else Ps.map (·.1)) (if topB x rest pg = true then [] else pg ++ List.replicate x.gap ⟨#[]⟩)).1 (fillB x (x.lines.length + 1) 0 (if topB x rest pg = true ∧ ¬ pg = [] then Ps.map (·.1) ++ [pg] else Ps.map (·.1)) (if topB x rest pg = true then [] else pg ++ List.replicate x.gap ⟨#[]⟩)).2 (frN ((fillB x (x.lines.length + 1) 0 (if topB x rest pg = true ∧ ¬ pg = [] then Ps.map (·.1) ++ [pg] else Ps.map (·.1)) (if topB x rest pg = true then [] else pg ++ List.replicate x.gap ⟨#[]⟩)).1.length - (if topB x rest pg = true ∧ ¬ pg = [] then Ps.map (·.1) ++ [pg] else Ps.map (·.1)).length) (if topB x rest pg = true ∧ ¬ pg = [] then (fs ++ [.int .i64 fi],-1) else (fs,fi):FrQ).1 (if topB x rest pg = true then (i:Int) else (if topB x rest pg = true ∧ ¬ pg = [] then (fs ++ [.int .i64 fi],-1) else (fs,fi):FrQ).2)) = _
           rw [← HP1.out,← HPA.out,← HF1.out,← HF2.out,HN.out,HFQ.out,h4,h3,List.length_map,List.length_map,HP1L.out,HFN.out.2]
          have hfin:layB (x :: rest) (Ps.map (·.1)) pg st = layB rest (P2.map (·.1)) (g2 ++ (x.lines.drop f0).take (tt - f0)) (st ++ [p1]):=by
           obtain ⟨mm,h1,h2⟩:=HFB.out
           obtain ⟨m',rfl⟩:∃ m',mm = m' + 1:=⟨mm - 1,by omega⟩
           rw [fillB_end (by rw [HN.out,HM2.out]; exact hfit)] at h2
           have h3:(x.lines.drop f0).take (tt - f0) = x.lines.drop f0:=List.take_of_length_le (by rw [List.length_drop,HN.out]; omega)
           show layB rest (fillB x (x.lines.length + 1) 0 (if topB x rest pg = true ∧ ¬ pg = [] then Ps.map (·.1) ++ [pg] else Ps.map (·.1)) (if topB x rest pg = true then [] else pg ++ List.replicate x.gap ⟨#[]⟩)).1 _ (st ++ [(if topB x rest pg = true ∧ ¬ pg = [] then Ps.map (·.1) ++ [pg] else Ps.map (·.1)).length]) = _
           rw [← HP1.out,← HPA.out,HN.out,HFQ.out,← h2,h3,List.length_map,HP1L.out]
          have HFI:=Lib.hid (hfin.symm.trans HY.out)
          have HFF:=Lib.hid (hfinF.symm.trans HYF.out)
          rw [← HRS.out] at HFF
          rw [← HRS.out] at HFI
          have hg5l:(g2 ++ (x.lines.drop f0).take (tt - f0)).length ≤ 54:=by
           rw [List.length_append,List.length_take,List.length_drop,HM2.out]; omega
          have hs5:(st ++ [p1]).length = i + 1:=by rw [List.length_append,HSI.out]; rfl
          have G6:=Lib.hid (G5.out.less (Y:=[(w.heap.size,#[.slice none 0 0,.slice none 0 0,.slice none 0 0],102)]) (by simp))
          clear G5 hfin HFB
          go_wp2
          go_roundw
          case rel=>exact ⟨i + 1,P2,_,_,_,fs2,_,_,s9,fi3,by omega,intNum,hg5l,hP2z,hs5,HFI,HFF,G6⟩
          case measure=>simp [intOf]; omega
         ·have hne2:¬ tt = n:=fun e=>hfit (htt.2.2.1 e)
          have hne3:¬ (tt:Int) = (n:Int):=by omega
          have HFB2:=Lib.hid (show ∃ mm,n - tt < mm ∧ fillB x mm tt (P2.map (·.1) ++ [g2 ++ (x.lines.drop f0).take (tt - f0) ++ (if x.kind = 3 then [moreS] else [])]) (if x.kind = 3 then [contS x.name] else []) = fq by
           obtain ⟨mm,h1,h2⟩:=HFB.out
           obtain ⟨m',rfl⟩:∃ m',mm = m' + 1:=⟨mm - 1,by omega⟩
           have h3:=fillB_more HX.out.1 (m:=m') (f:=f0) (P:=P2.map (·.1)) (pg:=g2) (by rw [HM2.out]; exact HRM.out) (by rw [HN.out,HM2.out]; exact hfit)
           rw [HM2.out,HTQ.out] at h3
           exact ⟨m',by omega,h3.symm.trans h2⟩)
          have hP2z:P2.length ≤ 1000000000:=by
           have h1:=HP1L.out
           have h2:=Nat.mul_le_mul_right (M + 2) (show i + 1 ≤ L by omega)
           rw [Nat.add_mul,Nat.one_mul] at h2
           omega
          have HM5L:=Lib.hid (show ((g2 ++ (x.lines.drop f0).take (tt - f0)).map Value.string).length = m5 by rw [List.length_map]; exact HM5.out)
          have hm5:m5 ≤ 2000000:=by
           rw [← HM5.out,List.length_append,List.length_take,List.length_drop,HM2.out,HN.out]
           omega
          clear HFB HM5 HRM HTQ
          generalize g2 ++ (x.lines.drop f0).take (tt - f0) = g5 at *
          by_cases h3:x.kind = 3
          ·have e3:((x.kind:Int) == 3) = true:=by rw [beq_iff_eq]; omega
           rw [if_pos h3,if_pos h3] at HFB2
           go_upto_region 23 with (fail)
           have cp:=G5.out.cells.1.2.2.2.1
           obtain ⟨ι,ff,hne,hff,hfS⟩:=family (fun W=>W.cell? ⟨p,0,none⟩ = some (.slice A13 m5 q13)) w5 cp
           have hneW:Nonempty World:=⟨w⟩
           have HFS:=Lib.hid hfS
           have HC5:=Lib.hid cp
           have HMR:=Lib.hid (more_c w5.drew)
           clear hfS cp b0 b1 b2 b3
           refine wp_region_segs2 [1,2] [] [] [([],[0],1),([],[],2),([],[],3),([],[],4)] (by kernel_rfl) (by kernel_rfl) (fun _ _ _ dd _ h=>by cases dd <;> exact h) (fun W=>∃ p:ι,W = ff p) (HFS.out _ HC5.out) ?_
           refine wpSegs2_step (by simp only [pick,List.getElem?_cons_succ,List.getElem?_cons_zero]; rfl) (by simp only [pick,List.getElem?_cons_succ,List.getElem?_cons_zero]; rfl) rfl (fun K0 hK0 L0 hL0=>?_)
           repeat (first | go_big_quiet_step (fail) | quiet_step (fail))
           refine wpQuiet_nil (hL0 _ ?_)
           repeat (first | go_big_quiet_step (fail) | quiet_step (fail))
           refine wpQuiet_nil ?_
           go_simp
           refine HMR.out.mono ?_
           rintro e w6 ⟨rfl,hb6⟩
           have G6:=Lib.hid (G5.out.drew.below hb6)
           refine hK0 (fun W=>∃ p:ι,W = ff p) _ _ (fun _ h=>h) (HFS.out _ G6.out.cells.1.2.2.2.1) ?_
           clear hb6 HMR G5 HC5
           refine wpSegs2_step (by simp only [pick,List.getElem?_cons_succ,List.getElem?_cons_zero]; rfl) (by simp only [pick,List.getElem?_cons_succ,List.getElem?_cons_zero]; rfl) rfl (fun K1 hK1 L1 hL1=>?_)
           repeat (first | go_big_quiet_step (fail) | quiet_step (fail))
           refine wpQuiet_nil (hL1 _ ?_)
           repeat (first | go_big_quiet_step (fail) | quiet_step (fail))
           refine wpQuiet_nil ?_
           go_simp
           have G7:=Lib.hid (show LyM w o p f P2 g5 (.slice A13 m5 q13) (.slice A11 P2.length q11) fs2 (.slice A12 fs2.length q12) (st ++ [p1]) s9 fi3 [(B,#[.int .i64 (x.kind:Int),.slice (some ⟨bl,ol,none⟩) n q1,.slice A2 n2 q2,.string x.name],99),(w.heap.size,#[.slice none 0 0,.slice none 0 0,.slice none 0 0],102)] (w6.alloc (.cells #[.string moreS] 9)) from ⟨G6.out.mr.alloc _,G6.out.fl,G6.out.ne⟩)
           refine hK1 (fun W=>∃ p:ι,W = ff p) _ _ (fun _ h=>h) (HFS.out _ G7.out.cells.1.2.2.2.1) ?_
           refine wpSegs2_step (by simp only [pick,List.getElem?_cons_succ,List.getElem?_cons_zero]; rfl) (by simp only [pick,List.getElem?_cons_succ,List.getElem?_cons_zero]; rfl) rfl (fun K2 hK2 L2 hL2=>?_)
           repeat (first | go_big_quiet_step (fail) | quiet_step (fail))
           refine wpQuiet_nil (hL2 _ ?_)
           repeat (first | go_big_quiet_step (fail) | quiet_step (fail))
           refine wpQuiet_nil ?_
           refine oper_mrPush rfl _ _ _ rfl 9 i0 _ 16 Tryz.underlying31 hi0 hz0 hz1 hz2 rfl (w6.alloc (.cells #[.string moreS] 9)) (.slice A13 m5 q13) (g5.map Value.string) m5 HM5L.out rfl G7.out.mr (.string moreS) rfl w6.heap.size _ _ (heap_alloc_new w6 _) rfl (by unfold maxLen; omega) (by omega) ?_
           intro g7 cap7 w7 H7
           have k7:=H7.cell (p:=(p,#[.slice A13 m5 q13],31)) (by simp)
           have d7:w7.cell? ⟨p,0,none⟩ = some (.slice A13 m5 q13):=k7.1 0
           have f7:w7.frozen? ⟨p,0,none⟩ = false:=k7.2 0
           refine hK2 (fun W=>∃ p:ι,W = ff p) _ _ (fun _ h=>h) (HFS.out _ d7) ?_
           have G8:=Lib.hid (LyM.page (pg2:=g5 ++ [moreS]) (by rw [List.map_append]; exact H7) G7.out.fl G7.out.ne)
           clear H7 k7 G6 G7
           refine wpSegs2_last (by simp only [pick,List.getElem?_cons_succ,List.getElem?_cons_zero]; rfl) (by simp only [pick,List.getElem?_cons_succ,List.getElem?_cons_zero]; rfl) rfl (by rfl) (fun K3 hK3 L3 hL3=>?_)
           repeat (first | go_big_quiet_step (fail) | quiet_step (fail))
           refine wpQuiet_nil (hL3 _ ?_)
           repeat (first | go_big_quiet_step (fail) | quiet_step (fail))
           refine wpQuiet_nil ?_
           go_simp
           refine hK3 _ _ (wpSegs2_end ?_)
           generalize w7.setCell ⟨p,0,none⟩ (.slice (some ⟨g7,0,none⟩) (m5 + 1) cap7) = w8' at *
           clear d7 f7 HFS hff
           have HFL:=Lib.hid (flush2_c w o p f P2 (g5 ++ [moreS]) _ _ fs2 _ (st ++ [p1]) s9 fi3 _ w8' G8.out hP2z)
           clear G8
           go_wp2_with fail
           refine HFL.out.mono ?_
           rintro e w9' ⟨rfl,pgV9,fV9,G9⟩
           have G9:=Lib.hid G9
           clear HFL
           obtain ⟨b0,b1,b2,b3⟩:=HBC.out w9' (G9.out.mr.prv (B,#[.int .i64 (x.kind:Int),.slice (some ⟨bl,ol,none⟩) n q1,.slice A2 n2 q2,.string x.name],99) (by simp)).1
           go_upto_region 26 with (fail)
           have cp:=G9.out.cells.1.2.2.2.1
           obtain ⟨ι,ff,hne,hff,hfS⟩:=family (fun W=>W.cell? ⟨p,0,none⟩ = some (.slice none 0 0) ∧ W.cell? ⟨B,0,none⟩ = some (.int .i64 (x.kind:Int)) ∧ W.cell? ⟨B,1,none⟩ = some (.slice (some ⟨bl,ol,none⟩) n q1) ∧ W.cell? ⟨B,2,none⟩ = some (.slice A2 n2 q2) ∧ W.cell? ⟨B,3,none⟩ = some (.string x.name)) w9' ⟨cp,b0,b1,b2,b3⟩
           have r0:∀ q,(ff q).cell? ⟨p,0,none⟩ = some (.slice none 0 0):=fun q=>(hff q).1
           have r1:∀ q,(ff q).cell? ⟨B,0,none⟩ = some (.int .i64 (x.kind:Int)):=fun q=>(hff q).2.1
           have r2:∀ q,(ff q).cell? ⟨B,1,none⟩ = some (.slice (some ⟨bl,ol,none⟩) n q1):=fun q=>(hff q).2.2.1
           have r3:∀ q,(ff q).cell? ⟨B,2,none⟩ = some (.slice A2 n2 q2):=fun q=>(hff q).2.2.2.1
           have r4:∀ q,(ff q).cell? ⟨B,3,none⟩ = some (.string x.name):=fun q=>(hff q).2.2.2.2
           have hneW:Nonempty World:=⟨w⟩
           have HFS:=Lib.hid hfS
           have HC9:=Lib.hid (And.intro cp (And.intro b0 (And.intro b1 (And.intro b2 b3))))
           have hgo:=goesOn_c x (.slice (some ⟨bl,ol,none⟩) n q1) (.slice A2 n2 q2) w9'.drew (Nat.le_trans HX.out.2.1.2.2 (by decide))
           unfold bkA at hgo
           rw [show (x.kind:Int) = 3 by omega] at hgo
           have HGO:=Lib.hid hgo
           have HCN:=Lib.hid (fun (W:World) (q10:Value) (h:∀ y:Pc,y ∈ [(p,#[q10],31),(B,#[.int .i64 (x.kind:Int),.slice (some ⟨bl,ol,none⟩) n q1,.slice A2 n2 q2,.string x.name],99)] → W.heap[y.1]? = some (.cells y.2.1 y.2.2 (0,0)))=>show W.cell? ⟨p,0,none⟩ = some q10 ∧ W.cell? ⟨B,0,none⟩ = some (.int .i64 (x.kind:Int)) ∧ W.cell? ⟨B,1,none⟩ = some (.slice (some ⟨bl,ol,none⟩) n q1) ∧ W.cell? ⟨B,2,none⟩ = some (.slice A2 n2 q2) ∧ W.cell? ⟨B,3,none⟩ = some (.string x.name) from
            ⟨(str_cells (h (p,#[q10],31) (by simp))).1 0,HBC.out W (h (B,#[.int .i64 (x.kind:Int),.slice (some ⟨bl,ol,none⟩) n q1,.slice A2 n2 q2,.string x.name],99) (by simp))⟩)
           have HPR:=Lib.hid (fun (W:World) (gg:List ByteArray) (v:Value) (h:LyM w o p f (P2 ++ [(g5 ++ [moreS],.slice (some ⟨g7,0,none⟩) (m5 + 1) cap7)]) gg v pgV9 (fs2 ++ [.int .i64 fi3]) fV9 (st ++ [p1]) s9 (-1) [(B,#[.int .i64 (x.kind:Int),.slice (some ⟨bl,ol,none⟩) n q1,.slice A2 n2 q2,.string x.name],99),(w.heap.size,#[.slice none 0 0,.slice none 0 0,.slice none 0 0],102)] W)=>HCN.out W v fun y hy=>(h.mr.prv y (by simp only [List.mem_cons,List.not_mem_nil,or_false] at hy ⊢; rcases hy with h | h <;> simp [h])).1)
           clear hgo hff hfS cp b0 b1 b2 b3 HCN
           refine wp_region_segs2 [2,3,4] [] [] [([],[0,1],2),([],[],3),([],[],4),([],[],5)] (by kernel_rfl) (by kernel_rfl) (fun _ _ _ dd _ h=>by cases dd <;> exact h) (fun W=>∃ p:ι,W = ff p) (HFS.out _ HC9.out) ?_
           refine wpSegs2_step (by simp only [pick,List.getElem?_cons_succ,List.getElem?_cons_zero]; rfl) (by simp only [pick,List.getElem?_cons_succ,List.getElem?_cons_zero]; rfl) rfl (fun K0 hK0 L0 hL0=>?_)
           repeat (first | go_big_quiet_step (fail) | quiet_step (fail))
           refine wpQuiet_nil (hL0 _ ?_)
           repeat (first | go_big_quiet_step (fail) | quiet_step (fail))
           refine wpQuiet_nil ?_
           go_simp
           refine HGO.out.mono ?_
           rintro e wa ⟨rfl,hba⟩
           have Ga:=Lib.hid (G9.out.drew.below hba)
           refine hK0 (fun W=>∃ p:ι,W = ff p) _ _ (fun _ h=>h) (HFS.out _ (HPR.out _ _ _ Ga.out)) ?_
           clear hba HGO G9 HC9
           refine wpSegs2_step (by simp only [pick,List.getElem?_cons_succ,List.getElem?_cons_zero]; rfl) (by simp only [pick,List.getElem?_cons_succ,List.getElem?_cons_zero]; rfl) rfl (fun K1 hK1 L1 hL1=>?_)
           repeat (first | go_big_quiet_step (fail) | quiet_step (fail))
           refine wpQuiet_nil (hL1 _ ?_)
           repeat (first | go_big_quiet_step (fail) | quiet_step (fail))
           refine wpQuiet_nil ?_
           go_simp
           have Gb:=Lib.hid (show LyM w o p f (P2 ++ [(g5 ++ [moreS],.slice (some ⟨g7,0,none⟩) (m5 + 1) cap7)]) [] (.slice none 0 0) pgV9 (fs2 ++ [.int .i64 fi3]) fV9 (st ++ [p1]) s9 (-1) [(B,#[.int .i64 (x.kind:Int),.slice (some ⟨bl,ol,none⟩) n q1,.slice A2 n2 q2,.string x.name],99),(w.heap.size,#[.slice none 0 0,.slice none 0 0,.slice none 0 0],102)] (wa.alloc (.cells #[.string (contS x.name)] 9)) from ⟨Ga.out.mr.alloc _,Ga.out.fl,Ga.out.ne⟩)
           refine hK1 (fun W=>∃ p:ι,W = ff p) _ _ (fun _ h=>h) (HFS.out _ (HPR.out _ _ _ Gb.out)) ?_
           refine wpSegs2_step (by simp only [pick,List.getElem?_cons_succ,List.getElem?_cons_zero]; rfl) (by simp only [pick,List.getElem?_cons_succ,List.getElem?_cons_zero]; rfl) rfl (fun K2 hK2 L2 hL2=>?_)
           repeat (first | go_big_quiet_step (fail) | quiet_step (fail))
           refine wpQuiet_nil (hL2 _ ?_)
           repeat (first | go_big_quiet_step (fail) | quiet_step (fail))
           refine wpQuiet_nil ?_
           refine oper_mrPush rfl _ _ _ rfl 9 i0 _ 16 Tryz.underlying31 hi0 hz0 hz1 hz2 rfl (wa.alloc (.cells #[.string (contS x.name)] 9)) (.slice none 0 0) [] 0 rfl rfl Gb.out.mr (.string (contS x.name)) rfl wa.heap.size _ _ (heap_alloc_new wa _) rfl (by decide) (by decide) ?_
           intro gc capc wc2 Hc
           have kc:=Hc.cell (p:=(p,#[.slice none 0 0],31)) (by simp)
           have dc:wc2.cell? ⟨p,0,none⟩ = some (.slice none 0 0):=kc.1 0
           have fc:wc2.frozen? ⟨p,0,none⟩ = false:=kc.2 0
           have eb:=HBC.out wc2 (Hc.prv (B,#[.int .i64 (x.kind:Int),.slice (some ⟨bl,ol,none⟩) n q1,.slice A2 n2 q2,.string x.name],99) (by simp)).1
           refine hK2 (fun W=>∃ p:ι,W = ff p) _ _ (fun _ h=>h) (HFS.out _ ⟨dc,eb⟩) ?_
           have Gd:=Lib.hid (LyM.page (pg2:=[contS x.name]) Hc Gb.out.fl Gb.out.ne)
           clear Hc kc Ga Gb eb
           refine wpSegs2_last (by simp only [pick,List.getElem?_cons_succ,List.getElem?_cons_zero]; rfl) (by simp only [pick,List.getElem?_cons_succ,List.getElem?_cons_zero]; rfl) rfl (by rfl) (fun K3 hK3 L3 hL3=>?_)
           repeat (first | go_big_quiet_step (fail) | quiet_step (fail))
           refine wpQuiet_nil (hL3 _ ?_)
           repeat (first | go_big_quiet_step (fail) | quiet_step (fail))
           refine wpQuiet_nil ?_
           go_simp
           refine hK3 _ _ (wpSegs2_end ?_)
           have HRN:=Lib.hid (room_next (b:=x) (f:=tt) (by omega))
           have HFN2:=Lib.hid (show p1 ≤ (P2 ++ [(g5 ++ [moreS],Value.slice (some ⟨g7,0,none⟩) (m5 + 1) cap7)]).length ∧ (fs2 ++ [.int .i64 fi3],-1) = frN ((P2 ++ [(g5 ++ [moreS],Value.slice (some ⟨g7,0,none⟩) (m5 + 1) cap7)]).length - p1) fs1 fi2 from by
            rw [List.length_append,List.length_singleton]
            exact ⟨by have:=HFN.out.1; omega,by
             rw [show P2.length + 1 - p1 = (P2.length - p1) + 1 by have:=HFN.out.1; omega]
             exact frN_succ HFN.out.2⟩)
           rw [if_pos h3] at HRN
           clear r0 r1 r2 r3 r4 HFS HPR dc fc
           go_wp2
           go_roundw
           case rel=>exact ⟨tt,P2 ++ [(g5 ++ [moreS],.slice (some ⟨g7,0,none⟩) (m5 + 1) cap7)],[contS x.name],_,pgV9,_,fV9,-1,rfl,by omega,Nat.le_of_ble_eq_true rfl,by rw [List.length_append,List.length_singleton]; omega,HRN,Lib.hid (by rw [List.map_append]; exact HFB2.out),HFN2,Gd⟩
           case measure=>simp [intOf]; omega
          ·have e3:((x.kind:Int) == 3) = false:=by rw [beq_eq_false_iff_ne]; omega
           rw [if_neg h3,if_neg h3,List.append_nil] at HFB2
           have HFL:=Lib.hid (flush2_c w o p f P2 g5 _ _ fs2 _ (st ++ [p1]) s9 fi3 _ w5 G5.out hP2z)
           clear G5
           go_wp2_with fail
           refine HFL.out.mono ?_
           rintro e w9' ⟨rfl,pgV9,fV9,G9⟩
           have G9:=Lib.hid G9
           clear HFL b0 b1 b2 b3
           obtain ⟨b0,b1,b2,b3⟩:=HBC.out w9' (G9.out.mr.prv (B,#[.int .i64 (x.kind:Int),.slice (some ⟨bl,ol,none⟩) n q1,.slice A2 n2 q2,.string x.name],99) (by simp)).1
           have HRN:=Lib.hid (room_next (b:=x) (f:=tt) (by omega))
           have HFN2:=Lib.hid (show p1 ≤ (P2 ++ [(g5,Value.slice A13 m5 q13)]).length ∧ (fs2 ++ [.int .i64 fi3],-1) = frN ((P2 ++ [(g5,Value.slice A13 m5 q13)]).length - p1) fs1 fi2 from by
            rw [List.length_append,List.length_singleton]
            exact ⟨by have:=HFN.out.1; omega,by
             rw [show P2.length + 1 - p1 = (P2.length - p1) + 1 by have:=HFN.out.1; omega]
             exact frN_succ HFN.out.2⟩)
           rw [if_neg h3] at HRN
           go_wp2
           go_roundw
           case rel=>exact ⟨tt,P2 ++ [(g5,.slice A13 m5 q13)],[],_,pgV9,_,fV9,-1,rfl,by omega,Nat.le_of_ble_eq_true rfl,by rw [List.length_append,List.length_singleton]; omega,HRN,Lib.hid (by rw [List.map_append]; exact HFB2.out),HFN2,G9⟩
           case measure=>simp [intOf]; omega
  ·have hiL:i = L:=by omega
   subst hiL
   have HYE:=Lib.hid (show layB (l.map (·.1)) [] [] [] = (Ps.map (·.1),pg,st) by
    have h:=HY.out
    rw [List.drop_eq_nil_of_le (by rw [HL.out]; exact Nat.le_refl _),List.map_nil] at h
    exact h.symm)
   have HYG:=Lib.hid (show layF (l.map (·.1)) 0 [] [] ([],-1) = (fs,fi) by
    have h:=HYF.out
    rw [List.drop_eq_nil_of_le (by rw [HL.out]; exact Nat.le_refl _),List.map_nil] at h
    exact h.symm)
   have hPz:Ps.length ≤ 1000000000:=by omega
   obtain ⟨⟨A3,q3,rfl⟩,⟨A4,q4,rfl⟩,⟨A5,q5,rfl⟩,⟨A6,q6,rfl⟩⟩:=HG.out.form
   have HPG:=Lib.hid (show pg = [] ↔ pg.length = 0 from List.length_eq_zero_iff.symm)
   obtain ⟨m,hm⟩:∃ m,pg.length = m:=⟨_,rfl⟩
   have HMM:=Lib.hid hm
   rw [hm] at HG HPG hpl
   clear hm
   have cp:=HG.out.cells.1.2.2.2.1
   go_upto_if 100 with (fail)
   go_cut [] (fun wx=>∃ (P1:List (List ByteArray × Value)) (pg1:List ByteArray) (pv1 pgV1:Value) (fs1:List Value) (fV1:Value) (fi1:Int),P1.map (·.1) = pagesB (l.map (·.1)) ∧ Hid (fs1 = frsB (l.map (·.1))) ∧ Hid (LyM w o p f P1 pg1 pv1 pgV1 fs1 fV1 st (.slice A6 st.length q6) fi1 [(w.heap.size,#[.slice none 0 0,.slice none 0 0,.slice none 0 0],102)] wx))
   case first=>
    by_cases h0:m = 0
    ·subst h0
     have HPB:=Lib.hid (show Ps.map (·.1) = pagesB (l.map (·.1)) by
      unfold pagesB
      rw [HYE.out]
      show _ = Ps.map (·.1) ++ (if pg = [] then [] else [pg])
      rw [if_pos (HPG.out.2 rfl),List.append_nil])
     go_wp2
     go_meet
     exact ⟨Ps,pg,_,_,fs,_,fi,HPB.out,Lib.hid (by unfold frsB; rw [HYG.out,HYE.out]; show fs = fs ++ (if pg = [] then [] else [Value.int .i64 fi]); rw [if_pos (HPG.out.2 (by first | rfl | trivial)),List.append_nil]),HG⟩
    ·have hm0:0 < m:=by omega
     have HPB:=Lib.hid (show Ps.map (·.1) ++ [pg] = pagesB (l.map (·.1)) by
      unfold pagesB
      rw [HYE.out]
      show _ = Ps.map (·.1) ++ (if pg = [] then [] else [pg])
      rw [if_neg (fun e=>h0 (HPG.out.1 e))])
     have HFL:=Lib.hid (flush2_c w o p f Ps pg _ _ fs _ st _ fi _ wr HG.out hPz)
     go_wp2_with fail
     refine HFL.out.mono ?_
     rintro e w9 ⟨rfl,pgV9,fV9,G9⟩
     go_wp2
     go_meet
     exact ⟨Ps ++ [(pg,.slice A3 m q3)],[],_,pgV9,_,fV9,-1,by rw [List.map_append]; exact HPB.out,Lib.hid (by unfold frsB; rw [HYG.out,HYE.out]; show fs ++ [Value.int .i64 fi] = fs ++ (if pg = [] then [] else [Value.int .i64 fi]); rw [if_neg (fun e=>h0 (HPG.out.1 e))]),Lib.hid G9⟩
   case rest=>
    clear HG cp
    obtain ⟨P1,pg1,pv1,pgV1,fs1,fV1,fi1,HP1,HFS1,G1⟩:=hcut
    have HP1:=Lib.hid HP1
    obtain ⟨_,⟨A8,q8,rfl⟩,⟨A9,q9,rfl⟩,_⟩:=G1.out.form
    obtain ⟨⟨d0,d1,d2,_⟩,_⟩:=G1.out.cells
    have kR:=G1.out.mr.cell (p:=(w.heap.size,#[.slice none 0 0,.slice none 0 0,.slice none 0 0],102)) (by simp)
    have z0:wc.cell? ⟨w.heap.size,0,none⟩ = some (.slice none 0 0):=kR.1 0
    have z1:wc.cell? ⟨w.heap.size,1,none⟩ = some (.slice none 0 0):=kR.1 1
    have z2:wc.cell? ⟨w.heap.size,2,none⟩ = some (.slice none 0 0):=kR.1 2
    have y0:wc.frozen? ⟨w.heap.size,0,none⟩ = false:=kR.2 0
    have y1:wc.frozen? ⟨w.heap.size,1,none⟩ = false:=kR.2 1
    have y2:wc.frozen? ⟨w.heap.size,2,none⟩ = false:=kR.2 2
    clear kR
    have hm:=(((G1.out.mr.less (Q:=[(w.heap.size,#[.slice none 0 0,.slice none 0 0,.slice none 0 0],102)]) (by simp)).set (i:=0) (.slice A8 P1.length q8) (by simp)).set (i:=1) (.slice A9 fs1.length q9) (by simp)).set (i:=2) (.slice A6 st.length q6) (by simp)
    have HMR:=Lib.hid (hm.less (Q:=[]) (by simp))
    clear hm
    go_wp2
    refine ⟨rfl,.agg #[.slice A8 P1.length q8,.slice A9 fs1.length q9,.slice A6 st.length q6],(by rw [results_cell1 rfl]; go_simp),?_⟩
    refine ⟨P1,_,_,_,rfl,HP1.out,by rw [← HFS1.out]; exact G1.out.fl,?_⟩
    rw [HYE.out,← HFS1.out]
    have hz:=HMR.out
    exact ⟨hz.bel,fun r hr=>hz.own r (by simp only [List.mem_cons] at hr ⊢; rcases hr with h | h | h | h <;> simp [h]),by
     have h1:=(List.pairwise_cons.1 hz.dis).2
     have h2:=List.pairwise_cons.1 h1
     have h3:=List.pairwise_cons.1 h2.2
     have h4:=List.pairwise_cons.1 h3.2
     refine List.pairwise_cons.2 ⟨fun r hr=>h2.1 r (by simp only [List.mem_cons] at hr ⊢; rcases hr with h | h | h <;> simp [h]),List.pairwise_cons.2 ⟨fun r hr=>?_,List.pairwise_cons.2 ⟨fun r hr=>h3.1 r (by simp [hr]),h4.2⟩⟩⟩
     rcases List.mem_cons.1 hr with rfl | hr
     ·exact (h3.1 _ (by simp)).symm
     ·exact h4.1 r hr,fun q hq=>by cases hq⟩
end
section
open Go.RowKit Go.Sort
section
variable {w wx wy:World} {l:List BkT} {v u:Value} {hs:List Nat}
theorem own_sl {a b:Nat} {T:TypeId} {l:List Value} (h:Own valR wx a b T l v):∃ A c,v = .slice A l.length c:=by
 rcases h.form with ⟨rfl,rfl⟩ | ⟨g,c,rfl,_⟩
 ·exact ⟨_,_,rfl⟩
 ·exact ⟨_,_,rfl⟩
end
theorem head_few {x:Scene} (h:LnOk x):(wrapT (headS x) 60).length ≤ 200:=by
 have h1:=wrapT_few (headS x) (wd:=60) (by decide)
 have h2:=h.head.1
 omega
theorem blkPara_few {l:List Blk} {p:Para} {m:Nat} (h:∀ b ∈ l,b.lines.length ≤ m ∧ b.name.size ≤ 2000) (hp:p.text.size ≤ 2000) (h1:1 ≤ m):(blkPara l p).length ≤ l.length + 1 ∧ ∀ b ∈ blkPara l p,b.lines.length ≤ m + 136 ∧ b.name.size ≤ 2000:=by
 have w60:=wrapT_few p.text (wd:=60) (by decide)
 have w35:=wrapT_few p.text (wd:=35) (by decide)
 have w30:=wrapT_few (⟨#[40]⟩ ++ p.text ++ ⟨#[41]⟩) (wd:=30) (by decide)
 rw [par_sz] at w30
 have hpush:∀ b:Blk,b.lines.length ≤ m + 136 → b.name.size ≤ 2000 → (l ++ [b]).length ≤ l.length + 1 ∧ ∀ c ∈ l ++ [b],c.lines.length ≤ m + 136 ∧ c.name.size ≤ 2000:=fun b hb hb2=>⟨by simp,fun c hc=>by
  rcases List.mem_append.1 hc with hc | hc
  ·have:=h c hc; exact ⟨by omega,this.2⟩
  ·rw [List.mem_singleton.1 hc]; exact ⟨hb,hb2⟩⟩
 have hput:∀ kd at_ (ls:List ByteArray),ls.length ≤ 136 → (l.modify (l.length - 1) fun b=>b.put kd at_ ls).length ≤ l.length + 1 ∧ ∀ c ∈ l.modify (l.length - 1) (fun b=>b.put kd at_ ls),c.lines.length ≤ m + 136 ∧ c.name.size ≤ 2000:=fun kd at_ ls hls=>⟨by rw [List.length_modify]; omega,fun c hc=>by
  obtain ⟨j,hj⟩:=List.mem_iff_getElem?.1 hc
  rw [List.getElem?_modify] at hj
  cases hz:l[j]? with
  | none=>rw [hz] at hj; cases hj
  | some y=>
   have hy:=h y (List.mem_iff_getElem?.2 ⟨j,hz⟩)
   rw [hz] at hj
   by_cases e:l.length - 1 = j
   ·simp [e] at hj
    subst hj
    refine ⟨?_,hy.2⟩
    show (y.lines ++ ls.map (indS at_)).length ≤ _
    rw [List.length_append,List.length_map]
    omega
   ·simp [e] at hj
    subst hj
    exact ⟨by omega,hy.2⟩⟩
 unfold blkPara
 split
 ·exact hpush _ (by show (wrapT p.text 60).length ≤ _; omega) (by show (0:Nat) ≤ _; omega)
 ·split
  ·exact hpush _ (by show 1 ≤ _; omega) (by show (0:Nat) ≤ _; omega)
  ·split
   ·exact hpush _ (by show 1 ≤ _; omega) hp
   ·split
    ·exact hput _ _ _ (by omega)
    ·split
     ·exact hput _ _ _ (by omega)
     ·exact ⟨by omega,fun c hc=>by have:=h c hc; exact ⟨by omega,this.2⟩⟩
theorem fold_few:∀ (ps:List Para) (l:List Blk) (m:Nat),(∀ p ∈ ps,p.text.size ≤ 2000) → 1 ≤ m → (∀ b ∈ l,b.lines.length ≤ m ∧ b.name.size ≤ 2000) → (ps.foldl blkPara l).length ≤ l.length + ps.length ∧ ∀ b ∈ ps.foldl blkPara l,b.lines.length ≤ m + 136 * ps.length ∧ b.name.size ≤ 2000
 | [],l,m,_,_,h=>⟨Nat.le_refl _,fun b hb=>by have:=h b hb; exact ⟨by simpa using this.1,this.2⟩⟩
 | p :: r,l,m,hp,h1,h=>by
  obtain ⟨a,b⟩:=blkPara_few h (hp p (by simp)) h1
  obtain ⟨c,d⟩:=fold_few r _ (m + 136) (fun q hq=>hp q (by simp [hq])) (by omega) b
  rw [List.foldl_cons,List.length_cons]
  exact ⟨by omega,fun x hx=>by have:=d x hx; exact ⟨by omega,this.2⟩⟩
theorem blocks_few {x:Scene} (h:LnOk x) (hn:x.paras.length ≤ 61):(blocksS x).length ≤ 62 ∧ ∀ b ∈ blocksS x,b.lines.length ≤ 8500 ∧ b.name.size ≤ 2000:=by
 have hh:=head_few h
 obtain ⟨a,b⟩:=fold_few x.paras [blkWrap 0 (headS x)] 200 (fun p hp=>(h.para hp).1) (by omega) (fun c hc=>by
  rw [List.mem_singleton.1 hc]
  exact ⟨hh,by show (0:Nat) ≤ _; omega⟩)
 unfold blocksS
 exact ⟨by rw [List.length_singleton] at a; omega,fun c hc=>by have:=b c hc; exact ⟨by omega,this.2⟩⟩
theorem flat_few:∀ (xs:List Scene),(∀ x ∈ xs,LnOk x) → (∀ x ∈ xs,x.paras.length ≤ 61) → ((xs.map blocksS).flatten).length ≤ xs.length * 62 ∧ ∀ b ∈ (xs.map blocksS).flatten,GoodB b ∧ BkOk b ∧ b.lines.length ≤ 8500
 | [],_,_=>⟨Nat.le_refl _,fun b hb=>by cases hb⟩
 | x :: r,h1,h2=>by
  obtain ⟨a,b⟩:=flat_few r (fun y hy=>h1 y (by simp [hy])) (fun y hy=>h2 y (by simp [hy]))
  obtain ⟨c,d⟩:=blocks_few (h1 x (by simp)) (h2 x (by simp))
  rw [List.map_cons,List.flatten_cons,List.length_append,List.length_cons]
  refine ⟨by omega,fun y hy=>?_⟩
  rcases List.mem_append.1 hy with hy | hy
  ·have hg:=blocks_good (h1 x (by simp)) y hy
   have hd:=d y hy
   exact ⟨hg,⟨by omega,hg.ks,by omega⟩,hd.1⟩
  ·exact b y hy
theorem layB_len (l:List Blk):(layB l [] [] []).2.2.length = l.length:=by
 have h:=(layB_run l [] ([],[])).2.2
 rw [List.append_nil] at h
 have h2:(layB [] (runB l [] ([],[])).1.1 (runB l [] ([],[])).1.2 []).2.2 = []:=rfl
 rw [h2,List.append_nil] at h
 exact (congrArg List.length h).trans (runB_len l [] ([],[]))
end
section
open Go.RowKit Go.Sort
theorem bk_one {y:BkT} {A1 A2:Option Addr} {n1 c1 n2 c2:Nat} (e1:y.2.1 = .slice A1 n1 c1) (e2:y.2.2 = .slice A2 n2 c2):∀ u ∈ bkCs y,u.oneCell' = true:=by
 intro u hu
 simp only [bkCs,e1,e2,List.mem_cons,List.not_mem_nil,or_false] at hu
 rcases hu with rfl | rfl | rfl | rfl <;> rfl
end
section
open Go.RowKit Go.Sort
def noneN (xs:List Scene):Nat:=(xs.filter fun x=>decide (x.no = ⟨#[]⟩)).length
def noAt (xs:List Scene) (i:Nat):ByteArray:=((xs[i]?).map (·.no)).getD ⟨#[]⟩
def risN (xs:List Scene):Bool:=(List.range (xs.length - 1)).all fun i=>decide (0 < cmpN (noAt xs (i + 1)) (noAt xs i))
def nbE (xs:List Scene):Int:=if noneN xs = xs.length then 0 else if 0 < noneN xs then 5 else if risN xs = true then 0 else 7
def nbS (xs:List Scene):List Scene:=if noneN xs = xs.length then numL xs.length xs else cutS xs 0 xs.length
theorem noneN_le (xs:List Scene):noneN xs ≤ xs.length:=List.length_filter_le ..
theorem noneN_step {xs:List Scene} {k:Nat} (hk:k < xs.length):noneN (xs.take (k + 1)) = noneN (xs.take k) + (if xs[k].no = ⟨#[]⟩ then 1 else 0):=by
 unfold noneN
 rw [List.take_succ_eq_append_getElem hk,List.filter_append,List.length_append]
 congr 1
 by_cases h:xs[k].no = ⟨#[]⟩
 ·simp [h]
 ·simp [h]
theorem risN_no {xs:List Scene} {i:Nat} (hi:i + 1 < xs.length) (h:¬ 0 < cmpN (noAt xs (i + 1)) (noAt xs i)):risN xs = false:=by
 rw [← Bool.not_eq_true]
 intro h2
 have:=List.all_eq_true.1 h2 i (List.mem_range.2 (by omega))
 exact h (of_decide_eq_true this)
theorem risN_yes {xs:List Scene} (h:∀ i,i + 1 < xs.length → 0 < cmpN (noAt xs (i + 1)) (noAt xs i)):risN xs = true:=
 List.all_eq_true.2 fun i hi=>decide_eq_true (h i (by have:=List.mem_range.1 hi; omega))
def NbP (t:ByteArray) (xs:List Scene) (w:World) (e:Ending) (w':World):Prop:=∃ (t':ByteArray) (l:List (Scene × Value)) (v:Value),e = .returned (.tuple #[.agg (xCs t' v),.int .i64 (nbE xs)]) ∧ BI w l v [] w' ∧ (nbE xs = 0 → t' = t ∧ l.map (·.1) = nbS xs)
set_option maxRecDepth 100000 in
set_option maxHeartbeats 8000000 in
theorem rvNumb_c {F:Nat → Prop} (t:ByteArray) (ls:List (Scene × Value)) (v:Value) (w:World) (h:ScL w F t ls v) (hl:ls.length ≤ 91) (hc:chkE ⟨t,ls.map (·.1)⟩ = 0) (hm:MaxLaid w) (he:ErrsLaid w) :
  Calls Tryz.prog 19 #[.agg #[.string t,v]] w (NbP t (ls.map (·.1)) w):=by
 obtain ⟨A,c,rfl,hlc,hcm⟩:=h.sli.form
 obtain ⟨L,hL⟩:∃ L,ls.length = L:=⟨_,rfl⟩
 have HL:=Lib.hid hL
 have HSC:=Lib.hid (fun (W:World) (hb:Below w.heap.size w W)=>h.below hb)
 have HMX:=Lib.hid (fun (W:World) (hb:Below w.heap.size w W)=>max_below hm hb (Nat.le_refl _))
 have HER:=Lib.hid (fun (W:World) (hb:Below w.heap.size w W)=>he.below hb (Nat.le_refl _))
 have HC:=Lib.hid hc
 have HNS:=Lib.hid (fun (k:Nat) (hk:k < ls.length)=>show (ls[k]'hk).1.no.size ≤ 10000 from by
  have h:=(LnOk.of (chkE_ok hc) (y:=(ls[k]'hk).1) (List.mem_map_of_mem (List.getElem_mem hk))).ok.1
  rcases h with h | h
  ·rw [h]; decide
  ·have:=numB_size h; omega)
 have HFO:=Lib.hid (sli_forms h.par)
 rw [hL] at hl hlc HSC ⊢
 have m0:=((BI.start w).new (xCs t (.slice A L c)) 28).new (xCs ⟨#[]⟩ (.slice none 0 0)) 28
 rw [show (w.alloc (.cells (xCs t (.slice A L c)) 28)).heap.size = w.heap.size + 1 by simp] at m0
 clear h hm he hc hL
 go_enter Tryz.func19,Tryz.ntmps19
 go_upto_region 1 with (fail)
 generalize hW:(w.alloc (.cells #[.string t,.slice A L c] 28)).alloc (.cells #[.string ⟨#[]⟩,.slice none 0 0] 28) = w1
 have G1:=Lib.hid (show BI w [] (.slice none 0 0) [(w.heap.size + 1,xCs ⟨#[]⟩ (.slice none 0 0),28),(w.heap.size,xCs t (.slice A L c),28)] w1 by rw [← hW]; exact m0)
 clear m0 hW
 have HXC:=Lib.hid (fun (W:World) (h:BI w [] (.slice none 0 0) [(w.heap.size + 1,xCs ⟨#[]⟩ (.slice none 0 0),28),(w.heap.size,xCs t (.slice A L c),28)] W)=>show (W.cell? ⟨w.heap.size,0,none⟩ = some (.string t) ∧ W.cell? ⟨w.heap.size,1,none⟩ = some (.slice A L c)) ∧ (W.cell? ⟨w.heap.size + 1,0,none⟩ = some (.string ⟨#[]⟩) ∧ W.cell? ⟨w.heap.size + 1,1,none⟩ = some (.slice none 0 0)) ∧ W.frozen? ⟨w.heap.size + 1,0,none⟩ = false ∧ W.frozen? ⟨w.heap.size + 1,1,none⟩ = false from
  have a:=h.cell (p:=(w.heap.size,xCs t (.slice A L c),28)) (by simp)
  have b:=h.cell (p:=(w.heap.size + 1,xCs ⟨#[]⟩ (.slice none 0 0),28)) (by simp)
  ⟨⟨a.1 0,a.1 1⟩,⟨b.1 0,b.1 1⟩,b.2 0,b.2 1⟩)
 obtain ⟨⟨x0,x1⟩,_⟩:=HXC.out w1 G1.out
 obtain ⟨xs,hxs⟩:∃ xs,ls.map (·.1) = xs:=⟨_,rfl⟩
 have HXS:=Lib.hid hxs
 have HXL:=Lib.hid (show xs.length = L by rw [← hxs,List.length_map]; exact HL.out)
 have HXG:=Lib.hid (fun (k:Nat) (hk:k < ls.length)=>show ∃ hk2:k < xs.length,xs[k]'hk2 = (ls[k]'hk).1 from by
  subst hxs
  exact ⟨by rw [List.length_map]; exact hk,by rw [List.getElem_map]⟩)
 clear hxs
 have HFIN:=Lib.hid (fun (wx wy:World) (t':ByteArray) (l:List (Scene × Value)) (v':Value) (E:Int) (h:BI w [] (.slice none 0 0) [(w.heap.size + 1,xCs ⟨#[]⟩ (.slice none 0 0),28),(w.heap.size,xCs t (.slice A L c),28)] wx) (hc:BI wx l v' [] wy) (hE:nbE xs = E) (hr:E = 0 → t' = t ∧ l.map (·.1) = nbS xs)=>show NbP t (ls.map (·.1)) w (.returned (.tuple #[.agg (xCs t' v'),.int .i64 E])) ((wy.setCell ⟨w.heap.size + 1,0,none⟩ (.string t')).setCell ⟨w.heap.size + 1,1,none⟩ v') from by
  have h1:=((h.take hc).set (i:=0) (.string t') (by simp)).set (i:=1) v' (by simp)
  rw [HXS.out]
  exact ⟨t',l,v',by rw [hE],h1.less (by simp),by rw [hE]; exact hr⟩)
 go_wp2
 go_loopw [4,12] (fun cv iv wr=>∃ k:Nat,k ≤ L ∧ iv = .int .i64 k ∧ cv = .int .i64 (noneN (xs.take k):Int) ∧ Hid (BI w [] (.slice none 0 0) [(w.heap.size + 1,xCs ⟨#[]⟩ (.slice none 0 0),28),(w.heap.size,xCs t (.slice A L c),28)] wr)) (fun _ iv _=>L - (intOf iv).toNat)
 case atStart=>exact ⟨0,Nat.zero_le _,rfl,rfl,G1⟩
 case round=>
  clear G1 x0 x1
  obtain ⟨k,hk,rfl,rfl,HG⟩:=hrel
  have hnk:noneN (xs.take k) ≤ 91:=by
   have h1:=noneN_le (xs.take k)
   rw [List.length_take] at h1
   omega
  by_cases hlt:k < L
  ·have hkl:k < ls.length:=by rw [HL.out]; exact hlt
   have hHr:=HSC.out wr HG.out.bo.bel
   obtain ⟨b,off,rfl,hfb,c0,c1,c2,c3,c4⟩:=scAt hHr.sli k hkl
   obtain ⟨A4,n4,cc4,h4⟩:=HFO.out _ (List.getElem_mem hkl)
   rw [h4] at c4
   obtain ⟨hk2,hxe⟩:=HXG.out k hkl
   have hst:=noneN_step hk2
   rw [hxe] at hst
   have HST:=Lib.hid hst
   generalize (ls[k]'hkl).1 = x at *
   generalize noneN (xs.take k) = n0 at *
   have G5:=Lib.hid (HG.out.alloc (.cells #[.string x.no,.int .i64 x.place,.string x.set,.int .i64 x.time,.slice A4 n4 cc4] 46))
   clear hst hxe h4 hHr hkl hk2 HG
   cases ce:x.no.toList.isEmpty with
   | true=>
    have HN1:=Lib.hid (show noneN (xs.take (k + 1)) = n0 + 1 by rw [HST.out,if_pos ((empty_iff x.no).1 ce)])
    go_wp2
    go_roundw
    case rel=>exact ⟨k + 1,by omega,intNum,by rw [HN1.out]; rfl,G5⟩
    case measure=>simp [intOf]; omega
   | false=>
    have HN1:=Lib.hid (show noneN (xs.take (k + 1)) = n0 by rw [HST.out,if_neg (fun h=>by rw [(empty_iff x.no).2 h] at ce; cases ce)]; rfl)
    go_wp2
    go_roundw
    case rel=>exact ⟨k + 1,by omega,intNum,by rw [HN1.out],G5⟩
    case measure=>simp [intOf]; omega
  ·have hkL:k = L:=by omega
   subst hkL
   have hall:xs.take k = xs:=List.take_of_length_le (by rw [HXL.out]; exact Nat.le_refl _)
   rw [hall] at hnk ⊢
   obtain ⟨n0,hn0⟩:∃ n0,noneN xs = n0:=⟨_,rfl⟩
   have HN0:=Lib.hid hn0
   rw [hn0] at hnk ⊢
   obtain ⟨⟨x0,x1⟩,⟨z0,z1⟩,f0,f1⟩:=HXC.out wr HG.out
   have hW1:w.heap.size + 1 < wr.heap.size:=HG.out.bo.plt (p:=(w.heap.size + 1,xCs ⟨#[]⟩ (.slice none 0 0),28)) (by simp)
   clear hall hn0
   by_cases h1:n0 = k
   ·have e1:((n0:Int) == (k:Int)) = true:=by rw [h1]; exact beq_self_eq_true _
    have HE:=Lib.hid (show nbE xs = 0 ∧ nbS xs = numL xs.length xs from ⟨if_pos (by rw [HN0.out,HXL.out,h1]),if_pos (by rw [HN0.out,HXL.out,h1])⟩)
    have HNU:=Lib.hid ((Number_c t ls (.slice A k c) wr (HSC.out wr HG.out.bo.bel) (by rw [HL.out]; omega) (HMX.out wr HG.out.bo.bel)).mono (R':=fun e w'=>∃ (t':ByteArray) (l:List (Scene × Value)) (v:Value),e = .returned (.tuple #[.agg (xCs t' v),.int .i64 0]) ∧ BI wr l v [] w' ∧ (t' = t ∧ l.map (·.1) = nbS xs)) fun e w' h=>by
     obtain ⟨t',l,v,e1,e2,e3⟩:=h
     rw [HC.out] at e1 e3
     obtain ⟨e4,e5⟩:=e3 rfl
     exact ⟨t',l,v,e1,e2,e4,by rw [HE.out.2]; dsimp only at e5; rw [HXS.out] at e5; exact e5⟩)
    clear h1
    go_wp2_with fail
    refine HNU.out.mono ?_
    rintro e w4 ⟨t',l,v',rfl,hB,hr⟩
    obtain ⟨A2,c2,e2,_,_⟩:=(hB.bo.own.sliF (enc:=fun x:Scene × Value=>x.1.cells x.2) (hn:=fun _=>rfl) (F:=fun _=>True) (fun _ _=>trivial)).form
    subst e2
    have hx4:w4.heap[w.heap.size + 1]? = some (.cells (xCs ⟨#[]⟩ (.slice none 0 0)) 28 (0,0)):=(hB.bo.bel.block _ hW1).trans (HG.out.bo.prv (w.heap.size + 1,xCs ⟨#[]⟩ (.slice none 0 0),28) (by simp)).1
    obtain ⟨gx,fx⟩:=str_cells hx4
    have z0':w4.cell? ⟨w.heap.size + 1,0,none⟩ = some (.string ⟨#[]⟩):=gx 0
    have z1':w4.cell? ⟨w.heap.size + 1,1,none⟩ = some (.slice none 0 0):=gx 1
    have f0':w4.frozen? ⟨w.heap.size + 1,0,none⟩ = false:=fx 0
    have f1':w4.frozen? ⟨w.heap.size + 1,1,none⟩ = false:=fx 1
    have HF:=Lib.hid (HFIN.out wr w4 t' l _ 0 HG.out hB HE.out.1 (fun _=>hr))
    clear hB hr hx4 gx fx HNU x0 x1 z0 z1 f0 f1
    rw [show xCs t' (.slice A2 l.length c2) = #[.string t',.slice A2 l.length c2] from rfl]
    go_wp2
    refine ⟨rfl,.tuple #[.agg (xCs t' (.slice A2 l.length c2)),.int .i64 0],(by rw [results_cell_tmp rfl]; go_simp; rfl),?_⟩
    exact HF.out
   ·have e1:((n0:Int) == (k:Int)) = false:=by rw [beq_eq_false_iff_ne]; omega
    by_cases h2:0 < n0
    ·have h2':(0:Int) < (n0:Int):=by omega
     have HE:=Lib.hid (show nbE xs = 5 by unfold nbE; rw [if_neg (by rw [HN0.out,HXL.out]; exact h1),if_pos (by rw [HN0.out]; exact h2)])
     have HF:=Lib.hid (HFIN.out wr wr ⟨#[]⟩ [] (.slice none 0 0) 5 HG.out (BI.start wr) HE.out (fun h=>by cases h))
     clear h1 h2
     go_wp2
     refine ⟨rfl,.tuple #[.agg (xCs ⟨#[]⟩ (.slice none 0 0)),.int .i64 5],(by rw [results_cell_tmp rfl]; go_simp; rfl),?_⟩
     exact HF.out
    ·have h2':¬ (0:Int) < (n0:Int):=by omega
     have HN1:=Lib.hid h1
     have HN2:=Lib.hid h2
     clear h1 h2
     go_wp2
     go_loopw [37] (fun iv wr=>∃ j:Nat,j ≤ k ∧ iv = .int .i64 j ∧ Hid (∀ i,i + 1 < j → 0 < cmpN (noAt xs (i + 1)) (noAt xs i)) ∧ Hid (BI w [] (.slice none 0 0) [(w.heap.size + 1,xCs ⟨#[]⟩ (.slice none 0 0),28),(w.heap.size,xCs t (.slice A k c),28)] wr)) (fun iv _=>k - (intOf iv).toNat)
     case atStart=>exact ⟨0,Nat.zero_le _,rfl,(fun i hi=>by omega),HG⟩
     case round=>
      clear HG x0 x1 z0 z1 f0 f1 hW1
      obtain ⟨j,hj,rfl,HRI,HG⟩:=hrel
      obtain ⟨⟨x0,x1⟩,⟨z0,z1⟩,f0,f1⟩:=HXC.out wr HG.out
      have hW1:w.heap.size + 1 < wr.heap.size:=HG.out.bo.plt (p:=(w.heap.size + 1,xCs ⟨#[]⟩ (.slice none 0 0),28)) (by simp)
      by_cases hlt:j < k
      ·have hkl:j < ls.length:=by rw [HL.out]; exact hlt
       have hHr:=HSC.out wr HG.out.bo.bel
       have hsl:=hHr.sli
       have hltF:=hHr.lt
       obtain ⟨b,off,rfl,hfb,c0,c1,c2,c3,c4⟩:=scAt hsl j hkl
       obtain ⟨A4,n4,cc4,h4⟩:=HFO.out _ (List.getElem_mem hkl)
       rw [h4] at c4
       obtain ⟨hk2,hxe⟩:=HXG.out j hkl
       have hns:=HNS.out j hkl
       have HNA:=Lib.hid (show noAt xs j = (ls[j]'hkl).1.no by unfold noAt; rw [List.getElem?_eq_getElem hk2,hxe]; rfl)
       have HPV:=Lib.hid (fun (h0:0 < j)=>show ∃ hj1:j - 1 < ls.length,noAt xs (j - 1) = (ls[j - 1]'hj1).1.no ∧ (ls[j - 1]'hj1).1.no.size ≤ 10000 ∧ wr.cell? ⟨b,off + (j - 1) * 5,none⟩ = some (.string (ls[j - 1]'hj1).1.no) from by
        have hj1:j - 1 < ls.length:=by omega
        obtain ⟨hk3,hx3⟩:=HXG.out (j - 1) hj1
        obtain ⟨b',off',eb,_,d0,_⟩:=scAt hsl (j - 1) hj1
        injection eb with eb
        injection eb with eb1 eb2
        subst eb1
        subst eb2
        exact ⟨hj1,by unfold noAt; rw [List.getElem?_eq_getElem hk3,hx3]; rfl,HNS.out _ hj1,d0⟩)
       have hbw:b < wr.heap.size:=hltF b hfb
       generalize (ls[j]'hkl).1 = x at *
       have hG5:=HG.out.alloc (.cells #[.string x.no,.int .i64 x.place,.string x.set,.int .i64 x.time,.slice A4 n4 cc4] 46)
       have hx5:=heap_alloc_new wr (.cells #[.string x.no,.int .i64 x.place,.string x.set,.int .i64 x.time,.slice A4 n4 cc4] 46)
       have hb5:=(Below.refl wr.heap.size wr).alloc (Nat.le_refl _) (.cells #[.string x.no,.int .i64 x.place,.string x.set,.int .i64 x.time,.slice A4 n4 cc4] 46)
       have hXw:wr.heap.size < (wr.alloc (.cells #[.string x.no,.int .i64 x.place,.string x.set,.int .i64 x.time,.slice A4 n4 cc4] 46)).heap.size:=by simp
       clear hxe h4 hHr hk2 hsl hltF hkl
       go_upto_region 15 with (fail)
       generalize wr.alloc (.cells #[.string x.no,.int .i64 x.place,.string x.set,.int .i64 x.time,.slice A4 n4 cc4] 46) = w5 at *
       have y0:w5.cell? ⟨wr.heap.size,0,none⟩ = some (.string x.no):=(str_cells hx5).1 0
       have x1':w5.cell? ⟨w.heap.size,1,none⟩ = some (.slice (some ⟨b,off,none⟩) k c):=(hb5.cell (p:=⟨w.heap.size,1,none⟩) (by show w.heap.size < _; omega)).trans x1
       have G5:=Lib.hid hG5
       generalize wr.heap.size = X at *
       clear hG5 hx5 x0 x1 c0 c1 c2 c3 c4 z0 z1 f0 f1
       go_cut [56] (fun cv wx=>cv = .bool (decide (0 < j ∧ ¬ 0 < cmpN (noAt xs j) (noAt xs (j - 1)))) ∧ Hid (BI w [] (.slice none 0 0) [(w.heap.size + 1,xCs ⟨#[]⟩ (.slice none 0 0),28),(w.heap.size,xCs t (.slice (some ⟨b,off,none⟩) k c),28)] wx))
       case first=>
        by_cases j0:j = 0
        ·have HT:=Lib.hid (show decide (0 < j ∧ ¬ 0 < cmpN (noAt xs j) (noAt xs (j - 1))) = false from decide_eq_false (fun h=>by omega))
         have j1:decide ((0:Int) < (j:Int)) = false:=decide_eq_false (by omega)
         have j2:decide (0 < j) = false:=decide_eq_false (by omega)
         clear j0
         go_region
         go_wp2
         go_meet
         exact ⟨by rw [HT.out],by first | exact G5 | exact Lib.hid G5.out.drew⟩
        ·have hj0:0 < j:=by omega
         obtain ⟨hj1,hn1,hs1,d0⟩:=HPV.out hj0
         have d0':w5.cell? ⟨b,off + (j - 1) * 5,none⟩ = some (.string (ls[j - 1]'hj1).1.no):=(hb5.cell (p:=⟨b,off + (j - 1) * 5,none⟩) hbw).trans d0
         have HN1':=Lib.hid hn1
         generalize (ls[j - 1]'hj1).1.no = q at *
         have s0:∀ (d:Nat) (os:Array Obj),(Sort.grow (redrawn w5 d) os).cell? ⟨X,0,none⟩ = some (.string x.no):=fun d os=>((below_regrown w5 d os).cell (p:=⟨X,0,none⟩) hXw).trans y0
         have s1:∀ (d:Nat) (os:Array Obj),(Sort.grow (redrawn w5 d) os).cell? ⟨w.heap.size,1,none⟩ = some (.slice (some ⟨b,off,none⟩) k c):=fun d os=>((below_regrown w5 d os).cell (p:=⟨w.heap.size,1,none⟩) (by show w.heap.size < _; omega)).trans x1'
         have s2:∀ (d:Nat) (os:Array Obj),(Sort.grow (redrawn w5 d) os).cell? ⟨b,off + (j - 1) * 5,none⟩ = some (.string q):=fun d os=>((below_regrown w5 d os).cell (p:=⟨b,off + (j - 1) * 5,none⟩) (by show b < _; omega)).trans d0'
         have HCM:=Lib.hid (fun (d:Nat) (os:Array Obj)=>compare_c x.no q (Sort.grow (redrawn w5 d) os) hns hs1 (HER.out _ (G5.out.bo.bel.trans ((below_regrown w5 d os).mono G5.out.bo.size))))
         have hjw:IntKind.i64.wrap ((j:Int) - 1) = ((j - 1:Nat):Int):=by rw [IntWalk.i64_in _ (by omega)]; omega
         have hj2:(0:Int) < (j:Int):=by omega
         have hj3:j - 1 < k:=by omega
         clear d0 d0' hn1
         by_cases hcp:0 < cmpN x.no q
         ·have HT:=Lib.hid (show decide (0 < j ∧ ¬ 0 < cmpN x.no q) = false from decide_eq_false (fun h=>h.2 hcp))
          generalize hz:cmpN x.no q = z at *
          have HZ:=Lib.hid hz
          clear hz
          have hcp2:¬ z ≤ 0:=by omega
          refine wp_region_quiet_below (by kernel_rfl) (by kernel_rfl) ?_
          repeat (first | go_big_quiet_step ((go_at_call 48; exact Calls.regrown_of (HCM.out _ _))) | quiet_step ((go_at_call 48; exact Calls.regrown_of (HCM.out _ _))))
          refine wpQuiet_nil ?_
          intro wy hwy
          have hby:=below_of_regrown hwy
          clear hwy
          go_wp2
          go_meet
          exact ⟨by rw [HNA.out,HN1'.out,HZ.out,HT.out],Lib.hid (G5.out.below hby)⟩
         ·have HT:=Lib.hid (show decide (0 < j ∧ ¬ 0 < cmpN x.no q) = true from decide_eq_true ⟨hj0,hcp⟩)
          generalize hz:cmpN x.no q = z at *
          have HZ:=Lib.hid hz
          clear hz
          have hcp2:z ≤ 0:=by omega
          refine wp_region_quiet_below (by kernel_rfl) (by kernel_rfl) ?_
          repeat (first | go_big_quiet_step ((go_at_call 48; exact Calls.regrown_of (HCM.out _ _))) | quiet_step ((go_at_call 48; exact Calls.regrown_of (HCM.out _ _))))
          refine wpQuiet_nil ?_
          intro wy hwy
          have hby:=below_of_regrown hwy
          clear hwy
          go_wp2
          go_meet
          exact ⟨by rw [HNA.out,HN1'.out,HZ.out,HT.out],Lib.hid (G5.out.below hby)⟩
       case rest=>
        clear G5 y0 x1'
        obtain ⟨rfl,G6⟩:=hcut
        obtain ⟨_,⟨z0,z1⟩,f0,f1⟩:=HXC.out wc G6.out
        by_cases hbd:0 < j ∧ ¬ 0 < cmpN (noAt xs j) (noAt xs (j - 1))
        ·have HE:=Lib.hid (show nbE xs = 7 by
          unfold nbE
          rw [if_neg (by rw [HN0.out,HXL.out]; exact HN1.out),if_neg (by rw [HN0.out]; exact HN2.out),risN_no (i:=j - 1) (by rw [HXL.out]; omega) (by rw [show j - 1 + 1 = j by omega]; exact hbd.2)]
          rfl)
         have HF:=Lib.hid (HFIN.out wc wc ⟨#[]⟩ [] (.slice none 0 0) 7 G6.out (BI.start wc) HE.out (fun h=>by cases h))
         rw [decide_eq_true hbd]
         clear hbd
         go_wp2
         refine ⟨rfl,.tuple #[.agg (xCs ⟨#[]⟩ (.slice none 0 0)),.int .i64 7],(by rw [results_cell_tmp rfl]; go_simp; rfl),?_⟩
         exact HF.out
        ·have HRI2:=Lib.hid (show ∀ i,i + 1 < j + 1 → 0 < cmpN (noAt xs (i + 1)) (noAt xs i) from fun i hi=>by
          by_cases e:i + 1 = j
          ·have:=Classical.not_not.1 (fun h=>hbd ⟨by omega,h⟩)
           rw [← e,Nat.add_sub_cancel] at this
           exact this
          ·exact HRI.out i (by omega))
         rw [decide_eq_false hbd]
         clear hbd z0 z1 f0 f1
         go_wp2
         go_roundw
         case rel=>exact ⟨j + 1,by omega,intNum,HRI2,G6⟩
         case measure=>simp [intOf]; omega
      ·have hjk:j = k:=by omega
       subst hjk
       have HE:=Lib.hid (show nbE xs = 0 ∧ nbS xs = cutS xs 0 xs.length from by
        have hr:risN xs = true:=risN_yes (fun i hi=>HRI.out i (by rw [HXL.out] at hi; exact hi))
        have hn:¬ noneN xs = xs.length:=by rw [HN0.out,HXL.out]; exact HN1.out
        exact ⟨by unfold nbE; rw [if_neg hn,if_neg (by rw [HN0.out]; exact HN2.out),if_pos hr],by unfold nbS; rw [if_neg hn]⟩)
       have HNU:=Lib.hid ((Cut_c t ls (.slice A j c) wr (HSC.out wr HG.out.bo.bel) (by rw [HL.out]; omega) (HMX.out wr HG.out.bo.bel) 0 (j:Int) (by omega) (by omega)).mono (R':=fun e w'=>∃ (t':ByteArray) (l:List (Scene × Value)) (v:Value),e = .returned (.tuple #[.agg (xCs t' v),.int .i64 0]) ∧ BI wr l v [] w' ∧ (t' = t ∧ l.map (·.1) = nbS xs)) fun e w' h=>by
        obtain ⟨t',l,v,E,e1,e2,e3⟩:=h
        rw [HC.out] at e3
        rcases e3 with ⟨h1,_⟩ | ⟨_,h1,_⟩ | ⟨_,h1,h2,h3,h4,h5,h6⟩
        ·exact absurd rfl h1
        ·dsimp only at h1
         rw [HXS.out,HXL.out] at h1
         omega
        ·subst h4
         refine ⟨t',l,v,e1,e2,h5,?_⟩
         rw [HE.out.2,HXL.out]
         dsimp only at h6
         rw [HXS.out] at h6
         exact h6)
       go_wp2_with fail
       refine HNU.out.mono ?_
       rintro e w4 ⟨t',l,v',rfl,hB,hr⟩
       obtain ⟨A2,c2,e2,_,_⟩:=(hB.bo.own.sliF (enc:=fun x:Scene × Value=>x.1.cells x.2) (hn:=fun _=>rfl) (F:=fun _=>True) (fun _ _=>trivial)).form
       subst e2
       have hx4:w4.heap[w.heap.size + 1]? = some (.cells (xCs ⟨#[]⟩ (.slice none 0 0)) 28 (0,0)):=(hB.bo.bel.block _ hW1).trans (HG.out.bo.prv (w.heap.size + 1,xCs ⟨#[]⟩ (.slice none 0 0),28) (by simp)).1
       obtain ⟨gx,fx⟩:=str_cells hx4
       have z0':w4.cell? ⟨w.heap.size + 1,0,none⟩ = some (.string ⟨#[]⟩):=gx 0
       have z1':w4.cell? ⟨w.heap.size + 1,1,none⟩ = some (.slice none 0 0):=gx 1
       have f0':w4.frozen? ⟨w.heap.size + 1,0,none⟩ = false:=fx 0
       have f1':w4.frozen? ⟨w.heap.size + 1,1,none⟩ = false:=fx 1
       have HF:=Lib.hid (HFIN.out wr w4 t' l _ 0 HG.out hB HE.out.1 (fun _=>hr))
       clear hB hr hx4 gx fx HNU x0 x1 z0 z1 f0 f1
       rw [show xCs t' (.slice A2 l.length c2) = #[.string t',.slice A2 l.length c2] from rfl]
       go_wp2
       refine ⟨rfl,.tuple #[.agg (xCs t' (.slice A2 l.length c2)),.int .i64 0],(by rw [results_cell_tmp rfl]; go_simp; rfl),?_⟩
       exact HF.out
end
section
open Go.RowKit Go.Sort
theorem frN_int (d:Nat) (fs:List Value) (fi:Int) (h:∀ v ∈ fs,∃ z:Int,v = .int .i64 z):∀ v ∈ (frN d fs fi).1,∃ z:Int,v = .int .i64 z:=fun v hv=>by
 unfold frN at hv
 split at hv
 ·exact h v hv
 ·rcases List.mem_append.1 hv with hv | hv
  ·exact h v hv
  ·rcases List.mem_cons.1 hv with hv | hv
   ·exact ⟨_,hv⟩
   ·exact ⟨_,List.eq_of_mem_replicate hv⟩
theorem layF_int:∀ (l:List Blk) (i:Nat) (P:List (List ByteArray)) (pg:List ByteArray) (F:FrQ),(∀ v ∈ F.1,∃ z:Int,v = .int .i64 z) → ∀ v ∈ (layF l i P pg F).1,∃ z:Int,v = .int .i64 z
 | [],_,_,_,_,h=>h
 | b :: r,i,P,pg,F,h=>by
  rw [layF]
  apply layF_int r
  apply frN_int
  intro v hv
  by_cases hc:topB b r pg = true ∧ ¬ pg = []
  ·rw [if_pos hc] at hv
   rcases List.mem_append.1 hv with hv | hv
   ·exact h v hv
   ·exact ⟨_,List.mem_singleton.1 hv⟩
  ·rw [if_neg hc] at hv
   exact h v hv
theorem frsB_int (l:List Blk):∀ v ∈ frsB l,∃ z:Int,v = .int .i64 z:=fun v hv=>by
 unfold frsB at hv
 rcases List.mem_append.1 hv with hv | hv
 ·exact layF_int l 0 [] [] ([],-1) (fun v hv=>by cases hv) v hv
 ·split at hv
  ·cases hv
  ·exact ⟨_,List.mem_singleton.1 hv⟩
theorem keyMs:PlainKey Tryz.prog 9 Value.string:=plainKey_string Tryz.underlying9
theorem keyMi:PlainKey Tryz.prog 3 (Value.int .i64):=plainKey_int Tryz.underlying3
theorem zeroSc (w:World):(zeroValue 46).run Tryz.prog w = .ok (.agg #[.string ⟨#[]⟩,.int .i64 0,.string ⟨#[]⟩,.int .i64 0,.slice none 0 0]) w:=by kernel_rfl
theorem zeroSt (w:World):(zeroValue 9).run Tryz.prog w = .ok (.string ⟨#[]⟩) w:=by kernel_rfl
def scV (y:Scene × Value):Value:=.agg #[.string y.1.no,.int .i64 y.1.place,.string y.1.set,.int .i64 y.1.time,y.2]
def mpC (ls:List (Scene × Value)):Nat → List (ByteArray × Value)
 | 0=>[]
 | k + 1=>match ls[k]? with
  | some y=>up (mpC ls k) y.1.no (scV y)
  | none=>mpC ls k
def fndS (ls:List (Scene × Value)) (s:ByteArray):Option (Scene × Value):=ls.foldl (fun r y=>if s = y.1.no then some y else r) none
def fndX (xs:List Scene) (s:ByteArray):Option Scene:=xs.foldl (fun r y=>if s = y.no then some y else r) none
theorem fnd_map (ls:List (Scene × Value)) (s:ByteArray):fndX (ls.map (·.1)) s = (fndS ls s).map (·.1):=by
 unfold fndX fndS
 have key:∀ (l:List (Scene × Value)) (r:Option (Scene × Value)),(l.map (·.1)).foldl (fun r y=>if s = y.no then some y else r) (r.map (·.1)) = (l.foldl (fun r y=>if s = y.1.no then some y else r) r).map (·.1):=by
  intro l
  induction l with
  | nil=>intro r; rfl
  | cons y l ih=>
   intro r
   rw [List.map_cons,List.foldl_cons,List.foldl_cons,← ih]
   congr 1
   split <;> rfl
 exact key ls none
theorem fnd_mem {ls:List (Scene × Value)} {s:ByteArray} {y:Scene × Value} (h:fndS ls s = some y):y ∈ ls:=by
 unfold fndS at h
 have key:∀ (l:List (Scene × Value)) (r:Option (Scene × Value)),l.foldl (fun r y=>if s = y.1.no then some y else r) r = some y → y ∈ l ∨ r = some y:=by
  intro l
  induction l with
  | nil=>intro r h; exact .inr h
  | cons x l ih=>
   intro r h
   rw [List.foldl_cons] at h
   rcases ih _ h with h | h
   ·exact .inl (List.mem_cons_of_mem _ h)
   ·split at h
    ·injection h with h; subst h; exact .inl (List.mem_cons_self ..)
    ·exact .inr h
 rcases key ls none h with h | h
 ·exact h
 ·cases h
theorem lk_mpC {ls:List (Scene × Value)} {s:ByteArray}:∀ k,k ≤ ls.length → lk (mpC ls k) s = (fndS (ls.take k) s).map scV
 | 0,_=>rfl
 | k + 1,hk=>by
  have hkl:k < ls.length:=by omega
  have ih:=lk_mpC (ls:=ls) (s:=s) k (by omega)
  rw [mpC,List.getElem?_eq_getElem hkl,List.take_succ_eq_append_getElem hkl]
  dsimp only
  rw [lk_up,ih]
  unfold fndS
  rw [List.foldl_append,List.foldl_cons,List.foldl_nil]
  by_cases h:s = ls[k].1.no
  ·rw [if_pos h,if_pos h]; rfl
  ·rw [if_neg h,if_neg h]
def omitS:ByteArray:=⟨#[32,79,77,73,84,84,69,68]⟩
def entB (xs:List Scene) (no:ByteArray):List Blk:=match fndX xs no with
 | some x=>blocksS x
 | none=>[blkWrap 0 (no ++ omitS)]
def allB2 (xs:List Scene) (nos:List ByteArray):List Blk:=(nos.map (entB xs)).flatten
def hdM (xs:List Scene) (nos:List ByteArray):Nat → List (Int × Value)
 | 0=>[]
 | k + 1=>match nos[k]? with
  | some no=>up (hdM xs nos k) ((allB2 xs (nos.take k)).length:Int) (.string no)
  | none=>hdM xs nos k
def strV (o:Option Value):ByteArray:=match o with
 | some (.string s)=>s
 | _=>⟨#[]⟩
def intV (v:Value):Int:=match v with
 | .int _ z=>z
 | _=>0
def frsS (xs:List Scene) (nos:List ByteArray):List ByteArray:=(frsB (allB2 xs nos)).map fun v=>strV (lk (hdM xs nos nos.length) (intV v))
theorem hdM_str (xs:List Scene) (nos:List ByteArray):∀ k z v,lk (hdM xs nos k) z = some v → ∃ s,v = .string s
 | 0,z,v,h=>by cases h
 | k + 1,z,v,h=>by
  rw [hdM] at h
  cases hn:nos[k]? with
  | none=>rw [hn] at h; exact hdM_str xs nos k z v h
  | some no=>
   rw [hn] at h
   dsimp only at h
   rw [lk_up] at h
   split at h
   ·injection h with h; exact ⟨no,h.symm⟩
   ·exact hdM_str xs nos k z v h
theorem hdM_val (xs:List Scene) (nos:List ByteArray) (k:Nat) (z:Int):(lk (hdM xs nos k) z).getD (.string ⟨#[]⟩) = .string (strV (lk (hdM xs nos k) z)):=by
 cases h:lk (hdM xs nos k) z with
 | none=>rfl
 | some v=>
  obtain ⟨s,rfl⟩:=hdM_str xs nos k z v h
  rfl
theorem allB2_step {xs:List Scene} {nos:List ByteArray} {k:Nat} (hk:k < nos.length):allB2 xs (nos.take (k + 1)) = allB2 xs (nos.take k) ++ entB xs nos[k]:=by
 unfold allB2
 rw [List.take_succ_eq_append_getElem hk,List.map_append,List.flatten_append,List.map_cons,List.map_nil,List.flatten_cons,List.flatten_nil,List.append_nil]
theorem hdM_step {xs:List Scene} {nos:List ByteArray} {k:Nat} (hk:k < nos.length):hdM xs nos (k + 1) = up (hdM xs nos k) ((allB2 xs (nos.take k)).length:Int) (.string nos[k]):=by
 rw [hdM,List.getElem?_eq_getElem hk]
theorem omit_good (no:ByteArray) (hn:no.size ≤ 100):GoodB (blkWrap 0 (no ++ omitS)) ∧ BkOk (blkWrap 0 (no ++ omitS)) ∧ (blkWrap 0 (no ++ omitS)).lines.length ≤ 8500:=by
 have hsz:(no ++ omitS).size ≤ 108:=by
  rw [ByteArray.size_append]
  have:omitS.size = 8:=rfl
  omega
 have h1:=wrapT_few (no ++ omitS) (wd:=60) (by decide)
 have hw:wordsA (no ++ omitS).data.toList [] ≠ []:=wordsA_some _ _ ⟨79,by
  rw [show (no ++ omitS).data.toList = no.data.toList ++ omitS.data.toList by simp]
  exact List.mem_append_right _ (by decide),by decide⟩
 have hl:(blkWrap 0 (no ++ omitS)).lines.length ≤ 10:=by show (wrapT (no ++ omitS) 60).length ≤ 10; omega
 exact ⟨⟨wrapT_pos (by decide) hw,fun _ _=>by omega,(fun k=>by cases k),(fun k=>by cases k)⟩,⟨by omega,(fun k=>by cases k),by show (0:Nat) ≤ _; omega⟩,by omega⟩
theorem fndX_mem {xs:List Scene} {s:ByteArray} {x:Scene} (h:fndX xs s = some x):x ∈ xs:=by
 have h2:=fnd_map (xs.map fun x=>(x,Value.slice none 0 0)) s
 have h3:(xs.map fun x=>(x,Value.slice none 0 0)).map (·.1) = xs:=by simp [List.map_map,Function.comp_def]
 rw [h3,h] at h2
 cases h4:fndS (xs.map fun x=>(x,Value.slice none 0 0)) s with
 | none=>rw [h4] at h2; cases h2
 | some y=>
  rw [h4] at h2
  injection h2 with h2
  have h5:=fnd_mem h4
  obtain ⟨z,hz,e⟩:=List.mem_map.1 h5
  rw [h2,← e]
  exact hz
theorem entB_few {xs:List Scene} {no:ByteArray} (h1:∀ x ∈ xs,LnOk x) (h2:∀ x ∈ xs,x.paras.length ≤ 61) (hn:no.size ≤ 100):(entB xs no).length ≤ 62 ∧ ∀ b ∈ entB xs no,GoodB b ∧ BkOk b ∧ b.lines.length ≤ 8500:=by
 unfold entB
 cases h:fndX xs no with
 | none=>exact ⟨by show 1 ≤ 62; omega,fun b hb=>by rw [List.mem_singleton.1 hb]; exact omit_good no hn⟩
 | some x=>
  have hx:=fndX_mem h
  obtain ⟨a,b⟩:=blocks_few (h1 x hx) (h2 x hx)
  refine ⟨a,fun y hy=>?_⟩
  have hg:=blocks_good (h1 x hx) y hy
  have hd:=b y hy
  exact ⟨hg,⟨by omega,hg.ks,by omega⟩,hd.1⟩
theorem allB2_few {xs:List Scene} (h1:∀ x ∈ xs,LnOk x) (h2:∀ x ∈ xs,x.paras.length ≤ 61):∀ (nos:List ByteArray),(∀ n ∈ nos,n.size ≤ 100) → (allB2 xs nos).length ≤ nos.length * 62 ∧ ∀ b ∈ allB2 xs nos,GoodB b ∧ BkOk b ∧ b.lines.length ≤ 8500
 | [],_=>⟨Nat.le_refl _,fun b hb=>by cases hb⟩
 | n :: r,hn=>by
  obtain ⟨a,b⟩:=allB2_few h1 h2 r (fun y hy=>hn y (by simp [hy]))
  obtain ⟨c,d⟩:=entB_few h1 h2 (hn n (by simp))
  unfold allB2 at a b ⊢
  rw [List.map_cons,List.flatten_cons,List.length_append,List.length_cons]
  refine ⟨by omega,fun y hy=>?_⟩
  rcases List.mem_append.1 hy with hy | hy
  ·exact d y hy
  ·exact b y hy
abbrev BQF (w:World) (v:Value) (M1 M2:Nat) (wx:World) (q:Nat):Prop:=w.heap.size ≤ q ∧ q < wx.heap.size ∧ v.ownBlock ≠ some q ∧ q ≠ M1 ∧ q ≠ M2
structure BQ (w:World) (l:List BkT) (v:Value) (M1 M2:Nat) (m1:List (ByteArray × Value)) (m2:List (Int × Value)) (wx:World):Prop where
 bel:Below w.heap.size w wx
 bo:Own bkR wx w.heap.size w.heap.size 99 l v
 ma:MapL wx M1 Value.string m1
 mb:MapL wx M2 (Value.int .i64) m2
 ne:M1 ≠ M2 ∧ v.ownBlock ≠ some M1 ∧ v.ownBlock ≠ some M2 ∧ w.heap.size ≤ M1 ∧ w.heap.size ≤ M2
 ln:∀ y ∈ l,Sli strR wx (BQF w v M1 M2 wx) y.1.lines y.2.1
 kd:∀ y ∈ l,Sli knR wx (BQF w v M1 M2 wx) y.1.kinds y.2.2
section
variable {w wx wy:World} {l:List BkT} {v:Value} {M1 M2:Nat} {m1:List (ByteArray × Value)} {m2:List (Int × Value)}
theorem BQ.below (h:BQ w l v M1 M2 m1 m2 wx) (hb:Below wx.heap.size wx wy):BQ w l v M1 M2 m1 m2 wy:=by
 have key:∀ {α:Type} {R:Rep α} (k:List α) z,Sli R wx (BQF w v M1 M2 wx) k z → Sli R wy (BQF w v M1 M2 wy) k z:=fun k z hs=>
  (hs.below hb (fun q hq=>hq.2.1)).more fun q hq=>⟨hq.1,Nat.lt_of_lt_of_le hq.2.1 hb.size,hq.2.2⟩
 exact ⟨h.bel.trans (hb.mono h.bel.size),h.bo.below hb,h.ma.below hb h.ma.lt,h.mb.below hb h.mb.lt,h.ne,fun y hy=>key _ _ (h.ln y hy),fun y hy=>key _ _ (h.kd y hy)⟩
theorem BQ.alloc (h:BQ w l v M1 M2 m1 m2 wx) (o:Obj):BQ w l v M1 M2 m1 m2 (wx.alloc o):=h.below ((Below.refl _ wx).alloc (Nat.le_refl _) o)
theorem BQ.setM {m2':List (Int × Value)} (h:BQ w l v M1 M2 m1 m2 wx) (hm:MapL wy M2 (Value.int .i64) m2') (hg:wx.grownBy wy (some M2)):BQ w l v M1 M2 m1 m2' wy:=by
 have hM2:∀ q,q < wx.heap.size → q ≠ M2 → wy.heap[q]? = wx.heap[q]?:=fun q hq hn=>hg.block q hq (fun e=>by injection e with e; exact hn e)
 have key:∀ {α:Type} {R:Rep α} (k:List α) z,Sli R wx (BQF w v M1 M2 wx) k z → Sli R wy (BQF w v M1 M2 wy) k z:=fun k z hs=>
  (hs.keep fun q hq=>hM2 q hq.2.1 hq.2.2.2.2).more fun q hq=>⟨hq.1,Nat.lt_of_lt_of_le hq.2.1 hg.size,hq.2.2⟩
 exact ⟨h.bel.grown hg h.bel.size (fun q hq=>by injection hq with hq; rw [← hq]; exact h.ne.2.2.2.2),Own.keepF (n:=4) (enc:=bkCs) (hn:=fun _=>rfl) h.bo (fun q hq=>hM2 q (h.bo.block q hq).2 (fun e=>h.ne.2.2.1 (by rw [hq,e]))) hg.size,
  h.ma.keep (hM2 M1 h.ma.lt h.ne.1),hm,h.ne,fun y hy=>key _ _ (h.ln y hy),fun y hy=>key _ _ (h.kd y hy)⟩
theorem BQ.more {l2:List BkT} {v':Value} {g:Nat} (h:BQ w l v M1 M2 m1 m2 wx) (hown:Own bkR wy w.heap.size w.heap.size 99 (l ++ l2) v') (hg:wx.grownBy wy v.ownBlock) (hv:v'.ownBlock = some g) (hat:v.ownBlock = some g ∨ g = wx.heap.size)
  (h1:∀ y ∈ l2,Sli strR wx (BQF w v M1 M2 wx) y.1.lines y.2.1) (h2:∀ y ∈ l2,Sli knR wx (BQF w v M1 M2 wx) y.1.kinds y.2.2):BQ w (l ++ l2) v' M1 M2 m1 m2 wy:=by
 have hne:∀ q,q < wx.heap.size → v.ownBlock ≠ some q → v'.ownBlock ≠ some q:=fun q hq hn e=>by
  rw [hv] at e
  injection e with e
  rcases hat with hat | hat
  ·exact hn (by rw [hat,e])
  ·omega
 have hk:∀ q,q < wx.heap.size → v.ownBlock ≠ some q → wy.heap[q]? = wx.heap[q]?:=fun q hq hn=>hg.block q hq (fun e=>hn e.symm)
 have key:∀ {α:Type} {R:Rep α} (k:List α) z,Sli R wx (BQF w v M1 M2 wx) k z → Sli R wy (BQF w v' M1 M2 wy) k z:=fun k z hs=>
  (hs.keep fun q hq=>hk q hq.2.1 hq.2.2.1).more fun q hq=>⟨hq.1,Nat.lt_of_lt_of_le hq.2.1 hg.size,hne q hq.2.1 hq.2.2.1,hq.2.2.2⟩
 refine ⟨h.bel.grown hg h.bel.size (fun q hq=>(h.bo.block q hq).1),hown,h.ma.keep (hk M1 h.ma.lt h.ne.2.1),h.mb.keep (hk M2 h.mb.lt h.ne.2.2.1),⟨h.ne.1,hne _ h.ma.lt h.ne.2.1,hne _ h.mb.lt h.ne.2.2.1,h.ne.2.2.2⟩,fun x hx=>?_,fun x hx=>?_⟩
 ·rcases List.mem_append.1 hx with hx | hx
  ·exact key _ _ (h.ln x hx)
  ·exact key _ _ (h1 x hx)
 ·rcases List.mem_append.1 hx with hx | hx
  ·exact key _ _ (h.kd x hx)
  ·exact key _ _ (h2 x hx)
theorem BQ.fresh {α:Type} {R:Rep α} {k:List α} {z:Value} (h:BQ w l v M1 M2 m1 m2 wx) (hz:wx.heap.size ≤ wy.heap.size) (hs:Sli R wy (fun q=>wx.heap.size ≤ q ∧ q < wy.heap.size) k z):Sli R wy (BQF w v M1 M2 wy) k z:=
 hs.more fun q hq=>⟨Nat.le_trans h.bel.size hq.1,hq.2,fun e=>by have:=(h.bo.block q e).2; omega,fun e=>by have:=h.ma.lt; omega,fun e=>by have:=h.mb.lt; omega⟩
theorem BQ.bkl (h:BQ w l v M1 M2 m1 m2 wx):BkL wx (fun q=>w.heap.size ≤ q ∧ q < wx.heap.size) l v:=
 ⟨h.bo.sli (fun b h1 h2=>⟨h1,h2⟩) (fun g hg=>h.bo.block g hg),fun y hy=>(h.ln y hy).more fun q hq=>⟨hq.1,hq.2.1⟩,fun y hy=>(h.kd y hy).more fun q hq=>⟨hq.1,hq.2.1⟩,fun q hq=>hq.2⟩
end
def MadP (xs:List Scene) (nos:List ByteArray) (w:World) (e:Ending) (w':World):Prop:=∃ (Ps:List (List ByteArray × Value)) (pV fV:Value),e = .returned (.tuple #[pV,fV]) ∧ Below w.heap.size w w' ∧ Ps.map (·.1) = pagesB (allB2 xs nos) ∧ (frsS xs nos).length = Ps.length ∧ Ps.length ≤ 700000000 ∧
 Sli valR w' (fun q=>w.heap.size ≤ q ∧ q < w'.heap.size) (Ps.map (·.2)) pV ∧ (∀ q ∈ Ps,Sli strR w' (fun q=>w.heap.size ≤ q ∧ q < w'.heap.size) q.1 q.2) ∧ Sli strR w' (fun q=>w.heap.size ≤ q ∧ q < w'.heap.size) (frsS xs nos) fV
end
section
open Go.RowKit Go.Sort
def gStep {α:Type} (top:Bool) (p:Nat) (x:α) (g:Nat → α):Nat → α:=if top = true then fun j=>if j = p then x else g j else g
theorem gStep_at {α:Type} (p:Nat) (x:α) (g:Nat → α):gStep true p x g p = x:=by unfold gStep; rw [if_pos rfl]; exact if_pos rfl
theorem gStep_ne {α:Type} {p:Nat} {x:α} {g:Nat → α} {j:Nat} (h:¬ j = p) (b:Bool):gStep b p x g j = g j:=by
 unfold gStep
 cases b with
 | true=>rw [if_pos rfl]; exact if_neg h
 | false=>rw [if_neg (by decide)]
theorem gStep_no {α:Type} (p:Nat) (x:α) (g:Nat → α):gStep false p x g = g:=rfl
def gN:List Blk → Nat → PgQ → (Nat → Int) → Nat → Int
 | [],_,_,g=>g
 | b :: r,i,q,g=>gN r (i + 1) (putB b r q).1 (gStep (topB b r q.2) (putB b r q).2 (i:Int) g)
def finQ:List Blk → PgQ → PgQ
 | [],q=>q
 | b :: r,q=>finQ r (putB b r q).1
theorem layB_fin:∀ (l:List Blk) (q:PgQ) (st:List Nat),(layB l q.1 q.2 st).1 = (finQ l q).1 ∧ (layB l q.1 q.2 st).2.1 = (finQ l q).2
 | [],_,_=>⟨rfl,rfl⟩
 | b :: r,q,st=>layB_fin r (putB b r q).1 _
theorem fillB_ge (b:Blk):∀ (m f:Nat) (P:List (List ByteArray)) (pg:List ByteArray),P.length ≤ (fillB b m f P pg).1.length
 | 0,_,_,_=>Nat.le_refl _
 | m + 1,f,P,pg=>by
  unfold fillB
  split
  ·exact Nat.le_refl _
  ·refine Nat.le_trans ?_ (fillB_ge b m _ _ _)
   rw [List.length_append]
   omega
theorem frN_spec {d n:Nat} {g:Nat → Int} {fs:List Value} {fi:Int} (h1:fs = (List.range n).map fun j=>Value.int .i64 (g j)) (h2:fi = g n) (h3:∀ j,n < j → g j = -1) :
  (frN d fs fi).1 = ((List.range (n + d)).map fun j=>Value.int .i64 (g j)) ∧ (frN d fs fi).2 = g (n + d):=by
 unfold frN
 by_cases h0:d = 0
 ·subst h0
  rw [if_pos rfl]
  exact ⟨h1,h2⟩
 ·rw [if_neg h0]
  obtain ⟨e,rfl⟩:∃ e,d = e + 1:=⟨d - 1,by omega⟩
  refine ⟨?_,(h3 _ (by omega)).symm⟩
  have e1:(List.range (n + (e + 1))).map (fun j=>Value.int .i64 (g j)) = (List.range n).map (fun j=>Value.int .i64 (g j)) ++ Value.int .i64 (g n) :: List.replicate e (Value.int .i64 (-1)):=by
   rw [List.range_add,List.map_append]
   congr 1
   rw [List.range_succ_eq_map,List.map_cons,List.map_cons,Nat.add_zero]
   congr 1
   rw [List.map_map,List.map_map]
   apply List.eq_replicate_iff.2
   refine ⟨by simp,fun b hb=>?_⟩
   obtain ⟨k,_,rfl⟩:=List.mem_map.1 hb
   show Value.int .i64 (g (n + (k + 1))) = _
   rw [h3 _ (by omega)]
  rw [e1,h1,h2]
  rfl
structure FrI (F:FrQ) (q:PgQ) (g:Nat → Int):Prop where
 l:F.1 = (List.range q.1.length).map fun j=>Value.int .i64 (g j)
 f:F.2 = g q.1.length
 b:∀ j,q.1.length < j → g j = -1
theorem layF_g:∀ (l:List Blk) (i:Nat) (q:PgQ) (F:FrQ) (g:Nat → Int),FrI F q g → FrI (layF l i q.1 q.2 F) (finQ l q) (gN l i q g)
 | [],_,_,_,_,h=>h
 | b :: r,i,q,F,g,h=>by
  refine layF_g r (i + 1) (putB b r q).1 _ _ ?_
  obtain ⟨P1,hP1⟩:∃ P1,(if topB b r q.2 = true ∧ ¬ q.2 = [] then q.1 ++ [q.2] else q.1) = P1:=⟨_,rfl⟩
  obtain ⟨pg1,hpg1⟩:∃ pg1,(if topB b r q.2 = true then [] else q.2 ++ List.replicate b.gap ⟨#[]⟩) = pg1:=⟨_,rfl⟩
  have hput:putB b r q = (fillB b (b.lines.length + 1) 0 P1 pg1,P1.length):=by unfold putB; rw [hP1,hpg1]
  rw [hput]
  show FrI (frN ((fillB b (b.lines.length + 1) 0 _ _).1.length - (if topB b r q.2 = true ∧ ¬ q.2 = [] then q.1 ++ [q.2] else q.1).length) _ _) _ _
  rw [hP1,hpg1]
  have hge:=fillB_ge b (b.lines.length + 1) 0 P1 pg1
  obtain ⟨d,hd⟩:∃ d,(fillB b (b.lines.length + 1) 0 P1 pg1).1.length - P1.length = d:=⟨_,rfl⟩
  rw [hd]
  have hlen:(fillB b (b.lines.length + 1) 0 P1 pg1).1.length = P1.length + d:=by omega
  obtain ⟨g',hg'⟩:∃ g',gStep (topB b r q.2) P1.length (i:Int) g = g':=⟨_,rfl⟩
  rw [hg']
  have key:∀ fs fi,fs = ((List.range P1.length).map fun j=>Value.int .i64 (g' j)) → fi = g' P1.length → (∀ j,P1.length < j → g' j = -1) → FrI (frN d fs fi) (fillB b (b.lines.length + 1) 0 P1 pg1) g':=fun fs fi h1 h2 h3=>by
   obtain ⟨k1,k2⟩:=frN_spec (d:=d) h1 h2 h3
   exact ⟨by rw [hlen]; exact k1,by rw [hlen]; exact k2,fun j hj=>h3 j (by omega)⟩
  have hsame:∀ n,n ≤ P1.length → (List.range n).map (fun j=>Value.int .i64 (g j)) = (List.range n).map fun j=>Value.int .i64 (g' j):=fun n hn=>by
   apply List.map_congr_left
   intro j hj
   have:=List.mem_range.1 hj
   rw [← hg',gStep_ne (by omega)]
  have hbey:q.1.length ≤ P1.length → ∀ j,P1.length < j → g' j = -1:=fun hle j hj=>by
   rw [← hg',gStep_ne (by omega)]
   exact h.b j (by omega)
  cases ht:topB b r q.2 with
  | true=>
   rw [ht] at hP1 hg'
   have hat:g' P1.length = (i:Int):=by rw [← hg']; exact gStep_at ..
   rw [if_pos rfl]
   by_cases hq:q.2 = []
   ·rw [if_neg (fun h=>h.2 hq)] at hP1 ⊢
    subst hP1
    exact key _ _ (by rw [h.l]; exact hsame _ (Nat.le_refl _)) hat.symm (hbey (Nat.le_refl _))
   ·rw [if_pos ⟨rfl,hq⟩] at hP1 ⊢
    have hPl:P1.length = q.1.length + 1:=by rw [← hP1,List.length_append]; rfl
    refine key _ _ ?_ hat.symm (hbey (by omega))
    rw [hPl,List.range_succ,List.map_append,List.map_singleton,← hsame q.1.length (by omega),h.l,h.f]
    have hg0:g' q.1.length = g q.1.length:=by rw [← hg',gStep_ne (by omega)]
    rw [hg0]
  | false=>
   rw [ht] at hP1 hg'
   have hf:¬ (false = true ∧ ¬ q.2 = []):=fun h=>Bool.false_ne_true h.1
   rw [if_neg hf] at hP1 ⊢
   rw [if_neg Bool.false_ne_true]
   rw [gStep_no] at hg'
   subst hg'
   subst hP1
   exact key _ _ h.l h.f h.b
theorem frsB_g (l:List Blk):frsB l = (List.range (pagesB l).length).map fun j=>Value.int .i64 (gN l 0 ([],[]) (fun _=>-1) j):=by
 have h:=layF_g l 0 ([],[]) ([],-1) (fun _=>-1) ⟨rfl,rfl,fun _ _=>rfl⟩
 obtain ⟨e1,e2⟩:=layB_fin l ([],[]) []
 dsimp only at e1 e2 h
 unfold frsB pagesB
 rw [e1,e2,h.l,h.f]
 by_cases h0:(finQ l ([],[])).2 = []
 ·rw [if_pos h0,if_pos h0,List.append_nil,List.append_nil]
 ·rw [if_neg h0,if_neg h0,List.length_append,List.length_singleton,List.range_succ,List.map_append,List.map_singleton]
end
section
open Go.RowKit Go.Sort
set_option maxRecDepth 100000 in
set_option maxHeartbeats 4000000 in
theorem insSort1_c (A:Option Addr) (n c:Nat) (fv:Value) (w:World) (hn:n ≤ 1) :
  Calls Tryz.prog 159 #[.slice A n c,.int .i64 0,.int .i64 n,fv] w (fun e w'=>e = .returned (.tuple #[]) ∧ w' = w):=by
 go_enter Tryz.func159,Tryz.ntmps159
 go_wp2
 refine wp_loop_rounds 1 ?_
 rw [rounds_succ]
 have h1:¬ ((0:Int) + 1 < (n:Int)):=by omega
 go_wp2
 go_end0
 exact ⟨rfl,rfl⟩
set_option maxRecDepth 100000 in
set_option maxHeartbeats 4000000 in
theorem pdqSort1_c (A:Option Addr) (n c:Nat) (lim:Int) (fv:Value) (w:World) (hn:n ≤ 1) :
  Calls Tryz.prog 109 #[.slice A n c,.int .i64 0,.int .i64 n,.int .i64 lim,fv] w (fun e w'=>e = .returned (.tuple #[]) ∧ w' = w):=by
 have HI:=Lib.hid (fun W=>insSort1_c A n c fv W hn)
 go_enter Tryz.func109,Tryz.ntmps109
 go_wp2
 refine wp_loop_rounds 1 ?_
 rw [rounds_succ]
 go_wp2_with (refine (HI.out _).mono ?_; rintro e w' ⟨rfl,rfl⟩)
 (try simp only [Exit.inBlock,Exit.then]); refine bodyPost_ret (results_none rfl _ _ _) rfl ?_
 exact ⟨rfl,rfl⟩
set_option maxRecDepth 100000 in
set_option maxHeartbeats 4000000 in
theorem cloneNil_c (w:World):Calls Tryz.prog 53 #[.slice none 0 0] w (fun e w'=>e = .returned (.slice none 0 0) ∧ w' = w):=by
 have q22:∀ (w:World) (a:Option Addr) (n c n' c':Nat),(binOp .eql 31 (.slice a n c) (.slice none n' c')).run Tryz.prog w = .ok (.bool a.isNone) w:=fun w a n c n' c'=>Lib.run_eql_slice_nil w _ _ a n c n' c' Tryz.underlying31
 go_enter Tryz.func53,Tryz.ntmps53
 go_wp2
 go_ret
 exact ⟨rfl,rfl⟩
def SortsK (nos:List ByteArray) (g:Nat):Prop:=∀ (F:Nat → Prop) (A:Option Addr) (c:Nat) (W:World),Sli strR W F nos (.slice A nos.length c) → ErrsLaid W →
 Calls Tryz.prog 54 #[.slice A nos.length c,.func (.func g) #[] #[]] W (fun e w'=>e = .returned (.tuple #[]) ∧ Below W.heap.size W w')
set_option maxRecDepth 100000 in
set_option maxHeartbeats 4000000 in
theorem sorts1 (nos:List ByteArray) (g:Nat) (hn:nos.length ≤ 1):SortsK nos g:=by
 intro F A c W _ _
 obtain ⟨n,hN⟩:∃ n,nos.length = n:=⟨_,rfl⟩
 rw [hN] at hn ⊢
 have HP:=Lib.hid (fun lim fv w=>pdqSort1_c A n c lim fv w hn)
 have HL:=Lib.hid (fun w=>show Calls Tryz.prog 110 #[.int .u64 (n:Int)] w (fun e w'=>e = .returned (.int .i64 (Lib.bitLen (n:Int).toNat:Nat)) ∧ w' = w) from Tryz.bits_Len (n:Int) w (by omega) (by omega))
 have wr:IntKind.u64.wrap (n:Int) = n:=by simp [IntKind.wrap,IntKind.bits,IntKind.signed]; omega
 clear hN
 go_enter Tryz.func54,Tryz.ntmps54
 go_wp2_with (first | (refine (HL.out _).mono ?_; rintro e w' ⟨rfl,rfl⟩) | (refine (HP.out _ _ _).mono ?_; rintro e w' ⟨rfl,rfl⟩))
 go_end0
 exact ⟨rfl,Below.refl _ _⟩
def EntP (nos:List ByteArray) (w:World) (e:Ending) (w':World):Prop:=∃ (A:Option Addr) (c:Nat),e = .returned (.slice A nos.length c) ∧ Sli strR w' (fun q=>w.heap.size ≤ q ∧ q < w'.heap.size) nos (.slice A nos.length c) ∧ Below w.heap.size w w'
set_option maxRecDepth 100000 in
set_option maxHeartbeats 8000000 in
theorem entries_c {F:Nat → Prop} (dn:Int) (t:ByteArray) (ls:List (Scene × Value)) (vS:Value) (Al:Option Addr) (nl cl:Nat) (w:World) (h:ScL w F t ls vS) (hln:ls.length ≤ 91) (he:ErrsLaid w) (hs:SortsK (ls.map (·.1.no)) 48) :
  Calls Tryz.prog 21 #[.agg #[.int .i64 dn,.string t,vS,.slice none 0 0,.slice Al nl cl]] w (EntP (ls.map (·.1.no)) w):=by
 obtain ⟨is,his,hs0,hs1,hs2⟩:=info_parts (show (Tryz.prog.info? 9).map (fun i=>(i.zero,i.size,i.bytes)) = some (some (.string ⟨#[]⟩),1,16) by kernel_rfl)
 obtain ⟨A,c,rfl,hlc,hcm⟩:=h.sli.form
 obtain ⟨L,hL⟩:∃ L,ls.length = L:=⟨_,rfl⟩
 have HL:=Lib.hid hL
 have HSC:=Lib.hid (fun (W:World) (hb:Below w.heap.size w W)=>h.below hb)
 have HER:=Lib.hid (fun (W:World) (hb:Below w.heap.size w W)=>he.below hb (Nat.le_refl _))
 have HFO:=Lib.hid (sli_forms h.par)
 have HSO:=Lib.hid hs
 rw [hL] at hlc hln HSC ⊢
 have HB0:=Lib.hid ((Below.refl w.heap.size w).alloc (Nat.le_refl _) (.cells #[.int .i64 dn,.string t,.slice A L c,.slice none 0 0,.slice Al nl cl] 34))
 have HY:=Lib.hid (str_cells (heap_alloc_new w (.cells #[.int .i64 dn,.string t,.slice A L c,.slice none 0 0,.slice Al nl cl] 34))).1
 have hz1w:(w.alloc (.cells #[.int .i64 dn,.string t,.slice A L c,.slice none 0 0,.slice Al nl cl] 34)).heap.size = w.heap.size + 1:=by simp
 have HC:=Lib.hid (fun W=>cloneNil_c W)
 clear h he hs hL
 go_enter Tryz.func21,Tryz.ntmps21
 go_upto_region 1 with (fail)
 generalize w.alloc (.cells #[.int .i64 dn,.string t,.slice A L c,.slice none 0 0,.slice Al nl cl] 34) = w1 at *
 have y2:w1.cell? ⟨w.heap.size,2,none⟩ = some (.slice A L c):=HY.out 2
 have y3:w1.cell? ⟨w.heap.size,3,none⟩ = some (.slice none 0 0):=HY.out 3
 clear HY
 go_wp2_with (refine (HC.out _).mono ?_; rintro e w9 ⟨rfl,hw9⟩; have hw9:=hw9.symm; subst hw9)
 go_loopw [3,13] (fun v iv wr=>∃ k:Nat,k ≤ L ∧ iv = .int .i64 k ∧ Hid (BO strR 9 w1 ((ls.take k).map (·.1.no)) v [] wr)) (fun _ iv _=>L - (intOf iv).toNat)
 case atStart=>exact ⟨0,Nat.zero_le _,rfl,BO.start w1⟩
 case round=>
  clear y2 y3
  obtain ⟨k,hk,rfl,HO⟩:=hrel
  have hzo:=HO.out.size
  have hll:((ls.take k).map (·.1.no)).length = k:=by rw [List.length_map,List.length_take,Nat.min_eq_left (by rw [HL.out]; exact hk)]
  have HB:=Lib.hid (HB0.out.trans (HO.out.bel.mono (by omega)))
  by_cases hlt:k < L
  ·have hkl:k < ls.length:=by rw [HL.out]; exact hlt
   have hHr:=HSC.out wr HB.out
   obtain ⟨b,off,rfl,hfb,c0,c1,c2,c3,c4⟩:=scAt hHr.sli k hkl
   obtain ⟨A4,n4,cc4,h4⟩:=HFO.out _ (List.getElem_mem hkl)
   have HST:=Lib.hid (show (ls.take (k + 1)).map (·.1.no) = (ls.take k).map (·.1.no) ++ [(ls[k]'hkl).1.no] by
    rw [List.take_succ_eq_append_getElem hkl,List.map_append,List.map_cons,List.map_nil])
   rw [h4] at c4
   generalize (ls[k]'hkl).1 = x at *
   obtain ⟨A6,c6,hv6,_,_⟩:=(HO.out.own.sliF (enc:=fun x:ByteArray=>[.string x]) (hn:=fun _=>rfl) (F:=fun _=>True) (fun _ _=>trivial)).form
   rw [hll] at hv6
   subst hv6
   generalize (ls.take k).map (·.1.no) = acc at *
   have G5:=Lib.hid (HO.out.alloc (.cells #[.string x.no,.int .i64 x.place,.string x.set,.int .i64 x.time,.slice A4 n4 cc4] 46))
   have hx5:=heap_alloc_new wr (.cells #[.string x.no,.int .i64 x.place,.string x.set,.int .i64 x.time,.slice A4 n4 cc4] 46)
   have hz5:w1.heap.size ≤ (wr.alloc (.cells #[.string x.no,.int .i64 x.place,.string x.set,.int .i64 x.time,.slice A4 n4 cc4] 46)).heap.size:=by simp; omega
   clear h4 hHr hkl HO
   go_upto_region 5 with (fail)
   generalize wr.alloc (.cells #[.string x.no,.int .i64 x.place,.string x.set,.int .i64 x.time,.slice A4 n4 cc4] 46) = w5 at *
   obtain ⟨e0,e1,e2,e3,e4⟩:=sc_cells (str_cells hx5)
   have GA:=Lib.hid (G5.out.alloc (.cells #[.string x.no] 9))
   clear hx5 e1 e2 e3 e4
   go_wp2_with (at_builtin; (refine wpList_pushB (R:=strR) rfl _ _ _ rfl w1.heap.size w1.heap.size 9 is _ 16 Tryz.underlying31 his hs0 hs1 hs2 rfl (by decide) _ (.slice A6 k c6) acc rfl GA.out.own x.no _ rfl (oneC rfl) w5.heap.size _ _ (heap_alloc_new w5 _) rfl (by unfold maxLen; omega) (by omega) (by simp; omega) ?_); intro g cap8 w8 hown8 hg8 hat8 hlt8)
   go_roundw
   case rel=>
    rw [hll] at hown8
    exact ⟨k + 1,by omega,intNum,Lib.hid (by rw [HST.out]; exact GA.out.more hown8 hg8 rfl hat8)⟩
   case measure=>simp [intOf]; omega
  ·have hkL:k = L:=by omega
   subst hkL
   have hall:ls.take k = ls:=List.take_of_length_le (by rw [HL.out]; exact Nat.le_refl _)
   have ho:=HO.out.own
   rw [hall] at ho hll
   have hsl:=ho.sliF (enc:=fun x:ByteArray=>[.string x]) (hn:=fun _=>rfl) (F:=fun q=>w.heap.size ≤ q ∧ q < wr.heap.size) (fun g hg=>by have:=ho.block g hg; exact ⟨by omega,this.2⟩)
   obtain ⟨A6,c6,hv6,_,_⟩:=hsl.form
   subst hv6
   have HS:=Lib.hid (HSO.out _ A6 c6 wr hsl (HER.out wr HB.out))
   have HR:=Lib.hid hsl
   have HLL:=Lib.hid hll
   rw [hll] at HS
   rw [hll]
   clear hsl ho hall hll HO
   go_wp2_with fail
   refine HS.out.mono ?_
   rintro e w9 ⟨rfl,hb9⟩
   have hb9s:=hb9.size
   have HR2:=Lib.hid (show EntP (ls.map (·.1.no)) w (.returned (.slice A6 k c6)) w9 from by
    have hr:=HR.out
    refine ⟨A6,c6,by rw [HLL.out],?_,HB.out.trans (hb9.mono HB.out.size)⟩
    exact (hr.below hb9 (fun q hq=>hq.2)).more fun q hq=>⟨hq.1,by have:=hq.2; omega⟩)
   clear hb9
   go_wp2
   go_ret
   exact HR2.out
end
section
open Go.RowKit Go.Sort
theorem fillB_len (b:Blk):∀ (m f:Nat) (P:List (List ByteArray)) (pg:List ByteArray),(fillB b m f P pg).1.length ≤ P.length + m
 | 0,_,_,_=>Nat.le_refl _
 | m + 1,f,P,pg=>by
  unfold fillB
  split
  ·show P.length ≤ _; omega
  ·have:=fillB_len b m (stopB b f (54 - pg.length)) (P ++ [pg ++ (b.lines.drop f).take (stopB b f (54 - pg.length) - f) ++ (if b.kind = 3 then [moreS] else [])]) (if b.kind = 3 then [contS b.name] else [])
   rw [List.length_append,List.length_singleton] at this
   omega
theorem putB_len (b:Blk) (r:List Blk) (q:PgQ):(putB b r q).1.1.length ≤ q.1.length + (b.lines.length + 2) ∧ (putB b r q).2 ≤ q.1.length + 1:=by
 unfold putB
 dsimp only
 have h:(if topB b r q.2 = true ∧ ¬ q.2 = [] then q.1 ++ [q.2] else q.1).length ≤ q.1.length + 1:=by
  split
  ·rw [List.length_append,List.length_singleton]; exact Nat.le_refl _
  ·omega
 exact ⟨Nat.le_trans (fillB_len b _ 0 _ _) (by omega),h⟩
theorem layB_plen {M:Nat}:∀ (l:List Blk) (q:PgQ) (st:List Nat),(∀ b ∈ l,b.lines.length ≤ M) → (layB l q.1 q.2 st).1.length ≤ q.1.length + l.length * (M + 2) ∧ ∀ s ∈ (layB l q.1 q.2 st).2.2,s ∈ st ∨ s ≤ q.1.length + l.length * (M + 2)
 | [],q,st,_=>⟨by show q.1.length ≤ _; omega,fun s hs=>.inl hs⟩
 | b :: r,q,st,h=>by
  obtain ⟨h1,h2⟩:=putB_len b r q
  have hb:=h b (by simp)
  obtain ⟨a,c⟩:=layB_plen r (putB b r q).1 (st ++ [(putB b r q).2]) (fun y hy=>h y (by simp [hy]))
  rw [show layB (b :: r) q.1 q.2 st = layB r (putB b r q).1.1 (putB b r q).1.2 (st ++ [(putB b r q).2]) from rfl,List.length_cons,Nat.add_mul,Nat.one_mul]
  refine ⟨by omega,fun s hs=>?_⟩
  rcases c s hs with hs | hs
  ·rcases List.mem_append.1 hs with hs | hs
   ·exact .inl hs
   ·rw [List.mem_singleton] at hs; subst hs; exact .inr (by omega)
  ·exact .inr (by omega)
theorem pages_few {xs:List Scene} (h1:∀ x ∈ xs,LnOk x) (h2:∀ x ∈ xs,x.paras.length ≤ 61) (hl:xs.length ≤ 91):(pagesB ((xs.map blocksS).flatten)).length ≤ 48000000 ∧ (∀ s ∈ (layB ((xs.map blocksS).flatten) [] [] []).2.2,s ≤ 48000000) ∧ ((xs.map blocksS).flatten).length ≤ 5642:=by
 obtain ⟨a,b⟩:=flat_few xs h1 h2
 obtain ⟨c,d⟩:=layB_plen (M:=8500) ((xs.map blocksS).flatten) ([],[]) [] (fun y hy=>(b y hy).2.2)
 have e:((xs.map blocksS).flatten).length * 8502 ≤ 5642 * 8502:=Nat.mul_le_mul_right _ (by omega)
 dsimp only [List.length_nil] at c d
 refine ⟨?_,fun s hs=>?_,by omega⟩
 ·unfold pagesB
  rw [List.length_append]
  have:(if (layB ((xs.map blocksS).flatten) [] [] []).2.1 = [] then ([]:List (List ByteArray)) else [(layB ((xs.map blocksS).flatten) [] [] []).2.1]).length ≤ 1:=by split <;> simp
  omega
 ·rcases d s hs with h | h
  ·cases h
  ·omega
theorem valAt {w:World} {F:Nat → Prop} {l:List Value} {A:Option Addr} {n c:Nat} (h:Sli valR w F l (.slice A n c)) (k:Nat) (hk:k < l.length):∃ b off,A = some ⟨b,off,none⟩ ∧ F b ∧ w.cell? ⟨b,off + k,none⟩ = some l[k]:=by
 obtain ⟨A',c',e,h1,h2,h3⟩:=h
 injection e with e1 e2 e3
 subst e1
 obtain ⟨b,off,cs,rfl,hF,hl,hc⟩:=h3 (by omega)
 refine ⟨b,off,rfl,hF,hc k _ ?_⟩
 have hz:(cs.drop (k * 1)).take 1 = [l[k]]:=hl.2 k _ (List.getElem?_eq_getElem hk)
 rw [Nat.mul_one] at hz
 have:=congrArg (fun q:List Value=>q[0]?) hz
 simpa using this
end
section
open Go.RowKit Go.Sort
def drC (dn:Int) (t:ByteArray) (v1 v2 v3:Value):Array Value:=#[.int .i64 dn,.string t,v1,v2,v3]
set_option maxRecDepth 100000 in
set_option maxHeartbeats 16000000 in
theorem rvMade_c {F:Nat → Prop} (dn:Int) (t:ByteArray) (ls:List (Scene × Value)) (vS:Value) (Ag Al:Option Addr) (ng cg nl cl:Nat) (nos:List ByteArray) (An:Option Addr) (cn:Nat) (w:World) (h:ScL w F t ls vS) (hok:∀ y ∈ ls,LnOk y.1) (hpn:∀ y ∈ ls,y.1.paras.length ≤ 61) (hln:ls.length ≤ 91)
  (hno:Sli strR w F nos (.slice An nos.length cn)) (hns:∀ n ∈ nos,n.size ≤ 100) (hnl:nos.length ≤ 1000) :
  Calls Tryz.prog 20 #[.agg (drC dn t vS (.slice Ag ng cg) (.slice Al nl cl)),.slice An nos.length cn] w (MadP (ls.map (·.1)) nos w):=by
 obtain ⟨i0,hi0,hz0,hz1,hz2⟩:=info_parts (show (Tryz.prog.info? 99).map (fun i=>(i.zero,i.size,i.bytes)) = some (some (.agg #[.int .i64 0,.slice none 0 0,.slice none 0 0,.string ⟨#[]⟩]),4,72) by kernel_rfl)
 obtain ⟨is,his,hs0,hs1,hs2⟩:=info_parts (show (Tryz.prog.info? 9).map (fun i=>(i.zero,i.size,i.bytes)) = some (some (.string ⟨#[]⟩),1,16) by kernel_rfl)
 obtain ⟨A,c,rfl,hlc,hcm⟩:=h.sli.form
 obtain ⟨L,hL⟩:∃ L,ls.length = L:=⟨_,rfl⟩
 have HL:=Lib.hid hL
 obtain ⟨N,hN⟩:∃ N,nos.length = N:=⟨_,rfl⟩
 have HN:=Lib.hid hN
 have HSC:=Lib.hid (fun (W:World) (hb:Below w.heap.size w W)=>h.below hb)
 have HNO:=Lib.hid (fun (W:World) (hb:Below w.heap.size w W)=>hno.below hb h.lt)
 have HOK:=Lib.hid hok
 have HPN:=Lib.hid hpn
 have HNS:=Lib.hid hns
 have HFO:=Lib.hid (sli_forms h.par)
 have hxok:∀ x ∈ ls.map (·.1),LnOk x:=fun x hx=>by
  obtain ⟨y,hy,rfl⟩:=List.mem_map.1 hx
  exact hok y hy
 have hxpn:∀ x ∈ ls.map (·.1),x.paras.length ≤ 61:=fun x hx=>by
  obtain ⟨y,hy,rfl⟩:=List.mem_map.1 hx
  exact hpn y hy
 have HFW:=Lib.hid (fun (k:Nat)=>allB2_few hxok hxpn (nos.take k) (fun n hn=>hns n (List.mem_of_mem_take hn)))
 have HLK:=Lib.hid (fun (s:ByteArray)=>show lk (mpC ls L) s = (fndS ls s).map scV from by
  have h1:=lk_mpC (ls:=ls) (s:=s) ls.length (Nat.le_refl _)
  rw [List.take_length,hL] at h1
  exact h1)
 have HFM:=Lib.hid (fun (s:ByteArray)=>fnd_map ls s)
 rw [hL] at hlc hln HSC ⊢
 rw [hN] at HNO hnl ⊢
 have HB0:=Lib.hid ((Below.refl w.heap.size w).alloc (Nat.le_refl _) (.cells (drC dn t (.slice A L c) (.slice Ag ng cg) (.slice Al nl cl)) 34))
 have HY:=Lib.hid (str_cells (heap_alloc_new w (.cells (drC dn t (.slice A L c) (.slice Ag ng cg) (.slice Al nl cl)) 34))).1
 have HM0:=Lib.hid (MapL.made (κ:=ByteArray) (mk:=Value.string) (w.alloc (.cells (drC dn t (.slice A L c) (.slice Ag ng cg) (.slice Al nl cl)) 34)))
 have hz1w:(w.alloc (.cells (drC dn t (.slice A L c) (.slice Ag ng cg) (.slice Al nl cl)) 34)).heap.size = w.heap.size + 1:=by simp
 unfold drC at HB0 HY HM0 hz1w ⊢
 have hmm:=@run_makeMap Tryz.prog
 clear h hno hok hpn hns hxok hxpn hL hN
 go_enter Tryz.func20,Tryz.ntmps20
 go_upto_region 1 with (fail)
 generalize w.alloc (.cells #[.int .i64 dn,.string t,.slice A L c,.slice Ag ng cg,.slice Al nl cl] 34) = w1 at *
 have y2:w1.cell? ⟨w.heap.size,2,none⟩ = some (.slice A L c):=HY.out 2
 have hMb:=(Below.refl w1.heap.size w1).alloc (Nat.le_refl _) (.map #[] 0)
 have HB1:=Lib.hid (HB0.out.trans (hMb.mono (by omega)))
 have y2':(w1.alloc (.map #[] 0)).cell? ⟨w.heap.size,2,none⟩ = some (.slice A L c):=(hMb.cell (p:=⟨w.heap.size,2,none⟩) (by show w.heap.size < _; omega)).trans y2
 have hz2w:(w1.alloc (.map #[] 0)).heap.size = w.heap.size + 2:=by simp [hz1w]
 clear hMb HB0 HY
 go_upto_region 2 with (fail)
 generalize w1.alloc (.map #[] 0) = w2 at *
 rw [hz1w] at HM0
 obtain ⟨M1,hM1⟩:∃ M1,w.heap.size + 1 = M1:=⟨_,rfl⟩
 rw [hM1] at HM0 ⊢
 have hM1w:w.heap.size ≤ M1:=by omega
 have hM1z:M1 < w2.heap.size:=by omega
 clear y2 hz1w hz2w hM1
 go_wp2
 go_loopw [24] (fun iv wr=>∃ k:Nat,k ≤ L ∧ iv = .int .i64 k ∧ Hid (MapL wr M1 Value.string (mpC ls k)) ∧ Hid (Below w.heap.size w wr)) (fun iv _=>L - (intOf iv).toNat)
 case atStart=>exact ⟨0,Nat.zero_le _,rfl,HM0.out,HB1.out⟩
 case round=>
  clear HM0 HB1 y2' hmm
  obtain ⟨k,hk,rfl,HM,HB⟩:=hrel
  have hMz:=HM.out.lt
  by_cases hlt:k < L
  ·have hkl:k < ls.length:=by rw [HL.out]; exact hlt
   have hHr:=HSC.out wr HB.out
   obtain ⟨b,off,rfl,hfb,c0,c1,c2,c3,c4⟩:=scAt hHr.sli k hkl
   obtain ⟨A4,n4,cc4,h4⟩:=HFO.out _ (List.getElem_mem hkl)
   have HST:=Lib.hid (show mpC ls (k + 1) = up (mpC ls k) (ls[k]'hkl).1.no (.agg #[.string (ls[k]'hkl).1.no,.int .i64 (ls[k]'hkl).1.place,.string (ls[k]'hkl).1.set,.int .i64 (ls[k]'hkl).1.time,.slice A4 n4 cc4]) by
    rw [mpC,List.getElem?_eq_getElem hkl]
    dsimp only
    unfold scV
    rw [h4])
   rw [h4] at c4
   generalize (ls[k]'hkl).1 = x at *
   have HM5:=Lib.hid (HM.out.alloc (.cells #[.string x.no,.int .i64 x.place,.string x.set,.int .i64 x.time,.slice A4 n4 cc4] 46))
   have HB5:=Lib.hid (HB.out.alloc (by have:=HB.out.size; omega) (.cells #[.string x.no,.int .i64 x.place,.string x.set,.int .i64 x.time,.slice A4 n4 cc4] 46))
   clear h4 hHr hkl HM HB
   go_wp2_with (at_mapUpdate; refine wpList_update_plain _ rfl _ _ _ 93 rfl 9 46 keyMs Tryz.underlying93 M1 (mpC ls k) rfl HM5.out x.no rfl (.agg #[.string x.no,.int .i64 x.place,.string x.set,.int .i64 x.time,.slice A4 n4 cc4]) rfl ?_; intro w6 hm6 hg6; rw [← HST.out] at hm6; have HB6:=Lib.hid (HB5.out.grown hg6 (by have:=HB5.out.size; omega) (fun b hb=>by injection hb with hb; omega)); have HM6:=Lib.hid hm6; clear hm6 hg6)
   go_roundw
   case rel=>exact ⟨k + 1,by omega,intNum,HM6,HB6⟩
   case measure=>simp [intOf]; omega
  ·have hkL:k = L:=by omega
   subst hkL
   have hmm:=@run_makeMap Tryz.prog
   have hbz:=HB.out.size
   have HQ0:=Lib.hid (show BQ w [] (.slice none 0 0) M1 wr.heap.size (mpC ls k) [] (wr.alloc (.map #[] 0)) from
    ⟨HB.out.alloc hbz _,Own.nil_,HM.out.alloc _,MapL.made (κ:=Int) (mk:=Value.int .i64) wr,⟨by omega,(fun e=>by cases e),(fun e=>by cases e),hM1w,hbz⟩,(fun y hy=>by cases hy),(fun y hy=>by cases hy)⟩)
   obtain ⟨M2,hM2⟩:∃ M2,wr.heap.size = M2:=⟨_,rfl⟩
   rw [hM2] at HQ0
   have hM2v:=hM2
   go_upto_region 9 with (fail)
   clear hmm
   generalize wr.alloc (.map #[] 0) = w3 at *
   clear hM2 hM2v HM HB hbz hMz
   obtain ⟨xs,hxs⟩:∃ xs,ls.map (·.1) = xs:=⟨_,rfl⟩
   have HXS:=Lib.hid hxs
   rw [hxs] at HFW HFM
   clear hxs
   go_wp2
   go_loopw [9,36] (fun v iv wr=>∃ (j:Nat) (l:List BkT),j ≤ N ∧ iv = .int .i64 j ∧ Hid (l.map (·.1) = allB2 xs (nos.take j)) ∧ Hid (BQ w l v M1 M2 (mpC ls k) (hdM xs nos j) wr)) (fun _ iv _=>N - (intOf iv).toNat)
   case atStart=>exact ⟨0,[],Nat.zero_le _,rfl,rfl,HQ0⟩
   case round=>
    clear HQ0
    obtain ⟨j,l,hj,rfl,HK,HG⟩:=hrel
    obtain ⟨A3,q3,e3,_⟩:=HG.out.bkl.sli.form
    subst e3
    have hlb:l.length ≤ 62000:=by
     have h1:=(HFW.out j).1
     rw [← HK.out,List.length_map,List.length_take] at h1
     omega
    have hzr:=HG.out.bel.size
    by_cases hlt:j < N
    ·have hjl:j < nos.length:=by rw [HN.out]; exact hlt
     obtain ⟨b,off,rfl,hfb,c0⟩:=strAt (HNO.out wr HG.out.bel) j hjl
     have HNZ:=Lib.hid (HNS.out _ (List.getElem_mem hjl))
     have HHS:=Lib.hid (show hdM xs nos (j + 1) = up (hdM xs nos j) (l.length:Int) (.string (nos[j]'hjl)) by rw [hdM_step hjl,← HK.out,List.length_map])
     have HAS:=Lib.hid (show allB2 xs (nos.take (j + 1)) = l.map (·.1) ++ entB xs (nos[j]'hjl) by rw [allB2_step hjl,HK.out])
     generalize nos[j]'hjl = no at *
     clear hjl
     go_upto_region 13 with (at_mapUpdate; refine wpList_update_plain _ rfl _ _ _ 95 rfl 3 9 keyMi Tryz.underlying95 M2 (hdM xs nos j) rfl HG.out.mb (l.length:Int) rfl (.string no) rfl ?_; intro w6 hm6 hg6; rw [← HHS.out] at hm6)
     have G6:=Lib.hid (HG.out.setM hm6 hg6)
     clear hm6 hg6 HG c0
     have HKM:=Lib.hid (HLK.out no)
     cases hf:fndS ls no with
     | some y=>
      have hmem:=fnd_mem hf
      obtain ⟨A4,n4,cc4,h4⟩:=HFO.out y hmem
      have hsc0:=(HSC.out w (Below.refl _ _)).par y hmem
      have HLV:=Lib.hid (show lk (mpC ls k) no = some (.agg #[.string y.1.no,.int .i64 y.1.place,.string y.1.set,.int .i64 y.1.time,.slice A4 n4 cc4]) by
       rw [HKM.out,hf]
       show some (scV y) = _
       unfold scV
       rw [h4])
      have HEB:=Lib.hid (show entB xs no = blocksS y.1 by
       have h1:=HFM.out no
       rw [hf] at h1
       unfold entB
       rw [h1]
       rfl)
      have HOx:=Lib.hid (And.intro (HOK.out y hmem) (HPN.out y hmem))
      rw [h4] at hsc0
      have HPA:=Lib.hid (fun (W:World) (hb:Below w.heap.size w W)=>show Sli paraR W F y.1.paras (.slice A4 n4 cc4) ∧ (∀ q,F q → q < W.heap.size) from ⟨hsc0.below hb (HSC.out w (Below.refl _ _)).lt,(HSC.out W hb).lt⟩)
      obtain ⟨x,vx⟩:=y
      dsimp only at HLV HEB HOx HPA
      clear hf hmem h4 hsc0 HKM
      have HG7:=Lib.hid (G6.out.alloc (.cells #[.string x.no,.int .i64 x.place,.string x.set,.int .i64 x.time,.slice A4 n4 cc4] 46))
      have hx7:=heap_alloc_new w6 (.cells #[.string x.no,.int .i64 x.place,.string x.set,.int .i64 x.time,.slice A4 n4 cc4] 46)
      go_upto_region 15 with (first | (at_lookup; refine wpList_lookup_plain _ rfl _ _ 93 true rfl 9 46 keyMs Tryz.underlying93 (.agg #[.string ⟨#[]⟩,.int .i64 0,.string ⟨#[]⟩,.int .i64 0,.slice none 0 0]) (zeroSc _) M1 (mpC ls k) rfl G6.out.ma no rfl ?_; rw [HLV.out]; simp only [if_true,Option.getD_some,Option.isSome_some]) | fail)
      generalize w6.alloc (.cells #[.string x.no,.int .i64 x.place,.string x.set,.int .i64 x.time,.slice A4 n4 cc4] 46) = w7 at *
      obtain ⟨e0,e1,e2,e3,e4⟩:=sc_cells (str_cells hx7)
      have HBL:=Lib.hid (Blocks_c x (.slice A4 n4 cc4) w7 (HPA.out w7 HG7.out.bel).1 (HPA.out w7 HG7.out.bel).2 HOx.out.1)
      have hxf:=blocks_few HOx.out.1 HOx.out.2
      clear hx7 G6
      go_wp2_with fail
      refine HBL.out.mono ?_
      rintro e w9 ⟨l2,v2,rfl,hl2,hN2⟩
      obtain ⟨s1,s2,s3⟩:=hN2.parts
      obtain ⟨A2,c2,rfl,_,_⟩:=s1.form
      have hm2:l2.length = (blocksS x).length:=by rw [← hl2,List.length_map]
      have hm0:0 < l2.length:=by
       obtain ⟨a,b,e,_⟩:=blocks_shape x
       rw [hm2,e]
       simp
      have hm62:l2.length ≤ 62:=by rw [hm2]; exact hxf.1
      have G9:=Lib.hid (HG7.out.below hN2.bo.bel)
      have HS:=Lib.hid s1
      have HO1:=Lib.hid (show ∀ y ∈ l2,∀ u ∈ bkCs y,u.oneCell' = true from fun y hy=>by
       obtain ⟨_,_,e1,_⟩:=(s2 y hy).form
       obtain ⟨_,_,e2,_⟩:=(s3 y hy).form
       exact bk_one e1 e2)
      have HP2:=Lib.hid (And.intro (fun y hy=>HG7.out.fresh hN2.bo.bel.size (s2 y hy)) (fun y hy=>HG7.out.fresh hN2.bo.bel.size (s3 y hy)))
      have HL2:=Lib.hid (show (l ++ l2).map (·.1) = allB2 xs (nos.take (j + 1)) by rw [List.map_append,hl2,HAS.out,HEB.out])
      have hzw9:=G9.out.bel.size
      clear hN2 s1 s2 s3 hl2 hm2 hxf HBL HG7 e0 e1 e2 e3 e4
      go_wp2_with (at_builtin; (refine wpList_appLm (n:=4) (enc:=bkCs) (hn:=fun _=>rfl) rfl _ _ _ rfl w.heap.size w.heap.size 99 i0 _ 72 Tryz.underlying94 hi0 hz0 hz1 hz2 rfl (by decide) _ (.slice A3 l.length q3) l rfl G9.out.bo l2 HO1.out A2 l2.length c2 rfl HS.out rfl hm0 (by unfold maxLen; omega) (by omega) hzw9 ?_); intro g2 capA wA hownA hgA hatA hltA)
      go_roundw
      case rel=>exact ⟨j + 1,l ++ l2,by omega,intNum,HL2,Lib.hid (G9.out.more hownA hgA rfl hatA HP2.out.1 HP2.out.2)⟩
      case measure=>simp [intOf]; omega
     | none=>
      have HLV:=Lib.hid (show lk (mpC ls k) no = none by rw [HKM.out,hf]; rfl)
      have HEB:=Lib.hid (show entB xs no = [blkWrap 0 (no ++ omitS)] by
       have h1:=HFM.out no
       rw [hf] at h1
       unfold entB
       rw [h1]
       rfl)
      clear hf HKM
      have HG7:=Lib.hid (G6.out.alloc (.cells #[.string ⟨#[]⟩,.int .i64 0,.string ⟨#[]⟩,.int .i64 0,.slice none 0 0] 46))
      have hnz:=HNZ.out
      have hx1:¬ 9223372036854775807 < no.size + (⟨#[32,79,77,73,84,84,69,68]⟩:ByteArray).size:=by
       have:(⟨#[32,79,77,73,84,84,69,68]⟩:ByteArray).size = 8:=rfl
       omega
      have hsz:(no ++ (⟨#[32,79,77,73,84,84,69,68]⟩:ByteArray)).size ≤ 1000000:=by
       rw [ByteArray.size_append]
       have:(⟨#[32,79,77,73,84,84,69,68]⟩:ByteArray).size = 8:=rfl
       omega
      have HNH:=Lib.hid (fun (W:World)=>NewHeading_c (no ++ (⟨#[32,79,77,73,84,84,69,68]⟩:ByteArray)) W hsz)
      clear hsz hnz
      go_upto_region 16 with (first | (at_lookup; refine wpList_lookup_plain _ rfl _ _ 93 true rfl 9 46 keyMs Tryz.underlying93 (.agg #[.string ⟨#[]⟩,.int .i64 0,.string ⟨#[]⟩,.int .i64 0,.slice none 0 0]) (zeroSc _) M1 (mpC ls k) rfl G6.out.ma no rfl ?_; rw [HLV.out]; simp only [if_true,Option.getD_none,Option.isSome_none]) | fail)
      generalize w6.alloc (.cells #[.string ⟨#[]⟩,.int .i64 0,.string ⟨#[]⟩,.int .i64 0,.slice none 0 0] 46) = w7 at *
      have hx1:¬ 9223372036854775807 < no.size + (⟨#[32,79,77,73,84,84,69,68]⟩:ByteArray).size:=by
       have:=HNZ.out
       have:(⟨#[32,79,77,73,84,84,69,68]⟩:ByteArray).size = 8:=rfl
       omega
      clear G6
      go_wp2_with fail
      refine (HNH.out w7).mono ?_
      rintro e w9 ⟨v1,rfl,hb9,ho9⟩
      have s2:=ho9.sliF (enc:=fun x:ByteArray=>[.string x]) (hn:=fun _=>rfl) (F:=fun q=>w7.heap.size ≤ q ∧ q < w9.heap.size) (fun g hg=>ho9.block g hg)
      obtain ⟨A2,c2,e2,_,_⟩:=s2.form
      subst e2
      obtain ⟨nw,hnw⟩:∃ nw,(wrapT (no ++ (⟨#[32,79,77,73,84,84,69,68]⟩:ByteArray)) 60).length = nw:=⟨_,rfl⟩
      have HL2:=Lib.hid (show (l ++ [((blkWrap 0 (no ++ omitS),.slice A2 nw c2,.slice none 0 0):BkT)]).map (·.1) = allB2 xs (nos.take (j + 1)) by rw [List.map_append,HAS.out,HEB.out]; rfl)
      rw [hnw] at s2 ⊢
      have hal:=(Below.refl w9.heap.size w9).alloc (Nat.le_refl _) (.cells #[.int .i64 0,.slice A2 nw c2,.slice none 0 0,.string ⟨#[]⟩] 99)
      have G9:=Lib.hid ((HG7.out.below hb9).alloc (.cells #[.int .i64 0,.slice A2 nw c2,.slice none 0 0,.string ⟨#[]⟩] 99))
      have hs2:=(HG7.out.fresh hb9.size s2).below hal (fun q hq=>hq.2.1)
      have HP2:=Lib.hid (hs2.more (G:=BQF w (.slice A3 l.length q3) M1 M2 (w9.alloc (.cells #[.int .i64 0,.slice A2 nw c2,.slice none 0 0,.string ⟨#[]⟩] 99))) fun q hq=>⟨hq.1,by have:=hq.2.1; have:=hal.size; omega,hq.2.2⟩)
      have hzw9:=(HG7.out.below hb9).bel.size
      clear hb9 ho9 s2 hnw hal hs2 HNH HG7 hx1
      go_wp2_with (at_builtin; (refine wpList_pushB (R:=bkR) rfl _ _ _ rfl w.heap.size w.heap.size 99 i0 _ 72 Tryz.underlying94 hi0 hz0 hz1 hz2 rfl (by decide) _ (.slice A3 l.length q3) l rfl G9.out.bo ((blkWrap 0 (no ++ omitS),.slice A2 nw c2,.slice none 0 0):BkT) _ rfl (by intro u hu; simp [bkCs] at hu; rcases hu with rfl | rfl | rfl | rfl <;> rfl) w9.heap.size _ _ (heap_alloc_new w9 _) rfl (by unfold maxLen; omega) (by omega) (by simp; omega) ?_); intro g2 capA wA hownA hgA hatA hltA)
      go_roundw
      case rel=>exact ⟨j + 1,l ++ [((blkWrap 0 (no ++ omitS),.slice A2 nw c2,.slice none 0 0):BkT)],by omega,intNum,HL2,Lib.hid (G9.out.more hownA hgA rfl hatA (fun y hy=>by rw [List.mem_singleton.1 hy]; exact HP2.out) (fun y hy=>by rw [List.mem_singleton.1 hy]; exact Sli.nil_))⟩
      case measure=>simp [intOf]; omega
    ·have hjN:j = N:=by omega
     subst hjN
     have hall:nos.take j = nos:=List.take_of_length_le (by rw [HN.out]; exact Nat.le_refl _)
     have hff:=(HFW.out j).2
     rw [hall] at hff
     have hlk:=HK.out
     rw [hall] at hlk
     have hmem:∀ y ∈ l,y.1 ∈ allB2 xs nos:=fun y hy=>by rw [← hlk]; exact List.mem_map_of_mem hy
     have HLA:=Lib.hid (Lay2_c l A3 q3 8500 wr HG.out.bkl (fun y hy=>(hff _ (hmem y hy)).1) (fun y hy=>(hff _ (hmem y hy)).2.1) (fun y hy=>(hff _ (hmem y hy)).2.2) (by decide) (Nat.le_trans (Nat.mul_le_mul_right _ hlb) (by decide)))
     have HLL:=Lib.hid hlk
     have HPB:=Lib.hid (show (pagesB (l.map (·.1))).length ≤ 600000000 by
      have h1:=(layB_plen (M:=8500) (l.map (·.1)) ([],[]) [] (fun b hb=>by rw [hlk] at hb; exact (hff b hb).2.2)).1
      dsimp only [List.length_nil] at h1
      have h2:(l.map (·.1)).length * (8500 + 2) ≤ 62000 * 8502:=Nat.mul_le_mul_right _ (by rw [List.length_map]; exact hlb)
      unfold pagesB
      rw [List.length_append]
      have h3:(if (layB (l.map (·.1)) [] [] []).2.1 = [] then ([]:List (List ByteArray)) else [(layB (l.map (·.1)) [] [] []).2.1]).length ≤ 1:=by split <;> simp
      omega)
     have HBE:=Lib.hid HG.out.bel
     have HMB:=Lib.hid HG.out.mb
     clear hall hff hlk hmem HG
     go_wp2_with fail
     refine HLA.out.mono ?_
     rintro e w5 ⟨Ps,pgV,fV,sV,rfl,hPs,hfl,hMR⟩
     obtain ⟨A7,c7,e7⟩:=own_sl (hMR.own (31,Ps.map (·.2),pgV) (by simp))
     obtain ⟨A8,c8,e8⟩:=own_sl (hMR.own (3,frsB (l.map (·.1)),fV) (by simp))
     obtain ⟨A9,c9,e9⟩:=own_sl (hMR.own (3,(layB (l.map (·.1)) [] [] []).2.2.map (fun k:Nat=>Value.int .i64 (k:Int)),sV) (by simp))
     dsimp only at e7 e8 e9
     rw [List.length_map] at e7 e9
     rw [layB_len,List.length_map] at e9
     obtain ⟨P,hP⟩:∃ P,Ps.length = P:=⟨_,rfl⟩
     have HPL:=Lib.hid hP
     rw [hfl,hP] at e8
     rw [hP] at e7
     subst e7
     subst e8
     subst e9
     have hP6:P ≤ 600000000:=by
      have h1:=HPB.out
      rw [← hPs,List.length_map,hP] at h1
      exact h1
     obtain ⟨zr,hzr2⟩:∃ zr,wr.heap.size = zr:=⟨_,rfl⟩
     have hzr3:w.heap.size ≤ zr:=by omega
     have HRP:=Lib.hid (show Sli valR w5 (fun q=>zr ≤ q ∧ q < w5.heap.size) (Ps.map (·.2)) (.slice A7 P c7) from by
      have ho:=hMR.own (31,Ps.map (·.2),.slice A7 P c7) (by simp)
      rw [hzr2] at ho
      exact ho.sliF (enc:=fun v:Value=>[v]) (hn:=fun _=>rfl) (fun g hg=>ho.block g hg))
     have HRQ:=Lib.hid (show ∀ q ∈ Ps,Sli strR w5 (fun q=>zr ≤ q ∧ q < w5.heap.size) q.1 q.2 from fun q hq=>by
      have hr:=hMR.own (9,q.1.map Value.string,q.2) (by simp only [List.mem_cons,List.mem_map]; exact .inr (.inr (.inr ⟨q,hq,rfl⟩)))
      have hs:=Own.strs hr
      rw [hzr2] at hs
      exact hs.sliF (enc:=fun x:ByteArray=>[.string x]) (hn:=fun _=>rfl) (fun g hg=>hs.block g hg))
     have HRF:=Lib.hid (show Sli valR w5 (fun q=>zr ≤ q ∧ q < w5.heap.size) (frsB (l.map (·.1))) (.slice A8 P c8) from by
      have ho:=hMR.own (3,frsB (l.map (·.1)),.slice A8 P c8) (by simp)
      rw [hzr2] at ho
      exact ho.sliF (enc:=fun v:Value=>[v]) (hn:=fun _=>rfl) (fun g hg=>ho.block g hg))
     have HB5:=Lib.hid (HBE.out.trans (hMR.bel.mono HBE.out.size))
     have HM5:=Lib.hid (HMB.out.below hMR.bel HMB.out.lt)
     have HFL:=Lib.hid (show (frsB (l.map (·.1))).length = P by rw [hfl,hP])
     have HPS:=Lib.hid hPs
     have hz5:=HB5.out.size
     have hz5r:=hMR.size
     have hal:=(Below.refl w5.heap.size w5).alloc (Nat.le_refl _) (.cells #[.slice A7 P c7,.slice A8 P c8,.slice A9 l.length c9] 102)
     have HX6:=Lib.hid (heap_alloc_new w5 (.cells #[.slice A7 P c7,.slice A8 P c8,.slice A9 l.length c9] 102))
     have HAL:=Lib.hid hal
     have hz56:w5.heap.size < (w5.alloc (.cells #[.slice A7 P c7,.slice A8 P c8,.slice A9 l.length c9] 102)).heap.size:=by simp
     clear hMR hPs hfl hP hal HLA HPB HBE HMB
     go_upto_region 19 with (fail)
     generalize w5.alloc (.cells #[.slice A7 P c7,.slice A8 P c8,.slice A9 l.length c9] 102) = w6 at *
     obtain ⟨gx,_⟩:=str_cells HX6.out
     have x1:w6.cell? ⟨w5.heap.size,1,none⟩ = some (.slice A8 P c8):=gx 1
     clear gx
     rw [HLL.out] at HRF HFL HPS
     obtain ⟨fb,hfb2⟩:∃ fb,frsB (allB2 xs nos) = fb:=⟨_,rfl⟩
     have HFB:=Lib.hid hfb2
     have HFI:=Lib.hid (frsB_int (allB2 xs nos))
     rw [hfb2] at HRF HFL HFI
     clear hfb2
     obtain ⟨m2,hm2⟩:∃ m2,hdM xs nos j = m2:=⟨_,rfl⟩
     have HDV:=Lib.hid (fun z=>hdM_val xs nos j z)
     have HFE:=Lib.hid (show frsS xs nos = fb.map fun v=>strV (lk m2 (intV v)) by unfold frsS; rw [HFB.out,HN.out,hm2])
     rw [hm2] at HM5 HDV
     clear hm2
     go_wp2
     go_loopw [16,67] (fun v iv wr=>∃ i:Nat,i ≤ P ∧ iv = .int .i64 i ∧ Hid (BO strR 9 w6 ((fb.take i).map fun v=>strV (lk m2 (intV v))) v [] wr)) (fun _ iv _=>P - (intOf iv).toNat)
     case atStart=>exact ⟨0,Nat.zero_le _,rfl,BO.start w6⟩
     case round=>
      clear x1
      obtain ⟨i,hi,rfl,HO⟩:=hrel
      have hzo:=HO.out.size
      by_cases hlt:i < P
      ·have hil:i < fb.length:=by rw [HFL.out]; exact hlt
       have hrf:=(HRF.out.below HAL.out (fun q hq=>hq.2)).below HO.out.bel (fun q hq=>by have:=hq.2; omega)
       obtain ⟨b,off,rfl,hfb3,c0⟩:=valAt hrf i hil
       obtain ⟨z,hz⟩:=HFI.out _ (List.getElem_mem hil)
       rw [hz] at c0
       have HTK:=Lib.hid (show (fb.take (i + 1)).map (fun v=>strV (lk m2 (intV v))) = (fb.take i).map (fun v=>strV (lk m2 (intV v))) ++ [strV (lk m2 z)] by
        rw [List.take_succ_eq_append_getElem hil,List.map_append,List.map_cons,List.map_nil,hz]
        rfl)
       have hll:((fb.take i).map fun v=>strV (lk m2 (intV v))).length = i:=by rw [List.length_map,List.length_take,Nat.min_eq_left (by omega)]
       have HM6:=Lib.hid ((HM5.out.below HAL.out HM5.out.lt).below HO.out.bel (by have:=HM5.out.lt; omega))
       have HZ:=Lib.hid (HDV.out z)
       generalize strV (lk m2 z) = sz at *
       generalize ((fb.take i).map fun v=>strV (lk m2 (intV v))) = acc at *
       obtain ⟨A6,c6,hv6,_,_⟩:=(HO.out.own.sliF (enc:=fun x:ByteArray=>[.string x]) (hn:=fun _=>rfl) (F:=fun _=>True) (fun _ _=>trivial)).form
       rw [hll] at hv6
       subst hv6
       have GA:=Lib.hid (HO.out.alloc (.cells #[.string sz] 9))
       clear hil hrf hz HO
       go_wp2_with (first | (at_lookup; refine wpList_lookup_plain _ rfl _ _ 95 false rfl 3 9 keyMi Tryz.underlying95 (.string ⟨#[]⟩) (zeroSt _) M2 m2 rfl HM6.out z rfl ?_; simp only [Bool.false_eq_true,if_false]; rw [HZ.out]) | (at_builtin; (refine wpList_pushB (R:=strR) rfl _ _ _ rfl w6.heap.size w6.heap.size 9 is _ 16 Tryz.underlying31 his hs0 hs1 hs2 rfl (by decide) _ (.slice A6 i c6) acc rfl GA.out.own sz _ rfl (oneC rfl) wr.heap.size _ _ (heap_alloc_new wr _) rfl (by unfold maxLen; omega) (by omega) (by simp; omega) ?_); intro g cap8 w8 hown8 hg8 hat8 hlt8))
       go_roundw
       case rel=>
        rw [hll] at hown8
        exact ⟨i + 1,by omega,intNum,Lib.hid (by rw [HTK.out]; exact GA.out.more hown8 hg8 rfl hat8)⟩
       case measure=>simp [intOf]; omega
      ·have hiP:i = P:=by omega
       subst hiP
       have hall:fb.take i = fb:=List.take_of_length_le (by rw [HFL.out]; exact Nat.le_refl _)
       obtain ⟨gx,_⟩:=str_cells ((HO.out.bel.block w5.heap.size hz56).trans HX6.out)
       have x0:wr.cell? ⟨w5.heap.size,0,none⟩ = some (.slice A7 i c7):=gx 0
       have ho:=HO.out.own
       rw [hall,← HFE.out] at ho
       have HR:=Lib.hid (show MadP (ls.map (·.1)) nos w (.returned (.tuple #[.slice A7 i c7,u16])) wr from by
        rw [HXS.out]
        have hw6:=HAL.out.size
        have hww:=HO.out.bel.size
        have key:∀ {α:Type} {R:Rep α} (k:List α) z,Sli R w5 (fun q=>zr ≤ q ∧ q < w5.heap.size) k z → Sli R wr (fun q=>w.heap.size ≤ q ∧ q < wr.heap.size) k z:=fun k z hs=>
         ((hs.below HAL.out (fun q hq=>hq.2)).below HO.out.bel (fun q hq=>by have:=hq.2; omega)).more fun q hq=>⟨by have:=hq.1; omega,by have:=hq.2; omega⟩
        exact ⟨Ps,_,_,rfl,(HB5.out.trans (HAL.out.mono hz5)).trans (HO.out.bel.mono (by omega)),HPS.out,by rw [HFE.out,List.length_map,HFL.out,HPL.out],by rw [HPL.out]; omega,key _ _ HRP.out,fun q hq=>key _ _ (HRQ.out q hq),ho.sliF (enc:=fun x:ByteArray=>[.string x]) (hn:=fun _=>rfl) (fun g hg=>by have:=ho.block g hg; exact ⟨by omega,this.2⟩)⟩)
       clear gx ho
       go_wp2
       go_ret2
       exact HR.out
end
section
open Go.RowKit Go.Sort
def KQ (z D:Nat) (w6 W:World) (v:Value):Prop:=z ≤ W.heap.size ∧ ∀ q,q < z → q ≠ D → W.heap[q]? = w6.heap[q]? ∧ v.ownBlock ≠ some q
theorem KQ.below {z D:Nat} {w6 W W':World} {v:Value} (h:KQ z D w6 W v) (hb:Below W.heap.size W W'):KQ z D w6 W' v:=
 ⟨Nat.le_trans h.1 hb.size,fun q hq hD=>⟨(hb.block q (by have:=h.1; omega)).trans (h.2 q hq hD).1,(h.2 q hq hD).2⟩⟩
theorem KQ.alloc {z D:Nat} {w6 W:World} {v:Value} (h:KQ z D w6 W v) (o:Obj):KQ z D w6 (W.alloc o) v:=h.below ((Below.refl _ W).alloc (Nat.le_refl _) o)
theorem KQ.more {z D g:Nat} {w6 W W':World} {v v':Value} (h:KQ z D w6 W v) (hg:W.grownBy W' v.ownBlock) (hv:v'.ownBlock = some g) (hat:v.ownBlock = some g ∨ g = W.heap.size):KQ z D w6 W' v':=
 ⟨Nat.le_trans h.1 hg.size,fun q hq hD=>⟨(hg.block q (by have:=h.1; omega) (fun e=>(h.2 q hq hD).2 e.symm)).trans (h.2 q hq hD).1,fun e=>by
  rw [hv] at e
  injection e with e
  rcases hat with hat | hat
  ·exact (h.2 q hq hD).2 (by rw [hat,e])
  ·have:=h.1; omega⟩⟩
theorem KQ.set {z D:Nat} {w6 W:World} {v:Value} (h:KQ z D w6 W v) (i:Nat) (u:Value):KQ z D w6 (W.setCell ⟨D,i,none⟩ u) v:=
 ⟨by have:=h.1; simpa [World.setCell] using this,fun q hq hD=>⟨(Below.heap_setCell W ⟨D,i,none⟩ u q (by show q ≠ D; exact hD)).trans (h.2 q hq hD).1,(h.2 q hq hD).2⟩⟩
theorem KQ.sli {z D:Nat} {w6 W:World} {v y:Value} {α:Type} {R:Rep α} {k:List α} {F:Nat → Prop} (h:KQ z D w6 W v) (hs:Sli R w6 F k y) (hF:∀ q,F q → q < z ∧ q ≠ D):Sli R W F k y:=
 hs.keep fun q hq=>(h.2 q (hF q hq).1 (hF q hq).2).1
abbrev LfT:=ByteArray × Int × ByteArray × Value
def lfC (x:LfT):List Value:=[.string x.1,.int .i64 x.2.1,.string x.2.2.1,x.2.2.2]
def lfR:Rep LfT:=Rep.flat 4 lfC (fun _=>rfl)
def itN (i:Nat):ByteArray:=⟨(Lib.itoa ((i:Int) + 1)).toArray⟩
def lvs (fs:List ByteArray) (Ps:List (List ByteArray × Value)):Nat → List LfT
 | 0=>[]
 | k + 1=>lvs fs Ps k ++ [(itN k,1,(fs[k]?).getD ⟨#[]⟩,((Ps[k]?).map (·.2)).getD (.slice none 0 0))]
theorem lvs_len (fs:List ByteArray) (Ps:List (List ByteArray × Value)):∀ k,(lvs fs Ps k).length = k
 | 0=>rfl
 | k + 1=>by rw [lvs,List.length_append,lvs_len fs Ps k]; rfl
theorem numL_len (l:List Scene):∀ k,(numL k l).length = l.length
 | 0=>rfl
 | k + 1=>by rw [numL,List.length_modify,numL_len l k]
theorem nbS_len (xs:List Scene):(nbS xs).length = xs.length:=by
 unfold nbS
 split
 ·exact numL_len _ _
 ·unfold cutS
  rw [List.length_modify,List.length_take,List.length_drop]
  omega
def drZ:Array Value:=drC 0 ⟨#[]⟩ (.slice none 0 0) (.slice none 0 0) (.slice none 0 0)
def lkPg (xs:List Scene):List (List ByteArray):=pagesB (allB2 xs (xs.map (·.no)))
def lkFr (xs:List Scene):List ByteArray:=frsS xs (xs.map (·.no))
def lockE (x:Script):Int:=if ¬ chkE x = 0 then chkE x else if ¬ nbE x.scenes = 0 then nbE x.scenes else if 999 < (lkPg (nbS x.scenes)).length then 2 else 0
def LockP (t:ByteArray) (xs:List Scene) (w:World) (e:Ending) (w':World):Prop:=∃ d:Value,e = .returned (.tuple #[d,.int .i64 (lockE ⟨t,xs⟩)]) ∧ Below w.heap.size w w' ∧ (¬ lockE ⟨t,xs⟩ = 0 → d = .agg drZ) ∧
 (lockE ⟨t,xs⟩ = 0 → ∃ (sc:List (Scene × Value)) (vS lv:Value) (Ps:List (List ByteArray × Value)),d = .agg (drC 1 t vS (.slice none 0 0) lv) ∧ sc.map (·.1) = nbS xs ∧ Ps.map (·.1) = lkPg (nbS xs) ∧ (lkFr (nbS xs)).length = Ps.length ∧
  Sli svR w' (fun q=>w.heap.size ≤ q ∧ q < w'.heap.size) sc vS ∧ (∀ y ∈ sc,Sli paraR w' (fun q=>w.heap.size ≤ q ∧ q < w'.heap.size) y.1.paras y.2) ∧ (∀ q ∈ Ps,Sli strR w' (fun q=>w.heap.size ≤ q ∧ q < w'.heap.size) q.1 q.2) ∧
  Sli lfR w' (fun q=>w.heap.size ≤ q ∧ q < w'.heap.size) (lvs (lkFr (nbS xs)) Ps Ps.length) lv)
theorem lockP_no {t:ByteArray} {xs:List Scene} {w w':World} {z:Int} (hz:¬ z = 0) (h:lockE ⟨t,xs⟩ = z) (hb:Below w.heap.size w w'):LockP t xs w (.returned (.tuple #[.agg drZ,.int .i64 z])) w':=
 ⟨_,by rw [h],hb,fun _=>rfl,fun h2=>absurd (h.symm.trans h2) hz⟩
theorem scl_of {w w':World} {sc:List (Scene × Value)} {v:Value} {t:ByteArray} (h:BI w sc v [] w') (ht:t.size ≤ 1000000) (hl:sc.length ≤ 91) (hok:∀ y ∈ sc,LnOk y.1 ∧ y.1.paras.length ≤ 61):ScL w' (fun q=>w.heap.size ≤ q ∧ q < w'.heap.size) t sc v:=
 ⟨h.bo.own.sli (fun b h1 h2=>⟨h1,h2⟩) (fun g hg=>h.bo.own.block g hg),fun y hy=>(h.inn y hy).more fun q hq=>⟨hq.1,hq.2.1⟩,fun q hq=>hq.2,ht,by omega,fun y hy=>by
  have h1:=(hok y hy).1
  have h2:=(hok y hy).2
  have h3:=h1.sizes
  exact ⟨by omega,by omega,by omega,fun p hp=>by have:=(h1.para hp).1; omega⟩⟩
end
section
open Go.RowKit Go.Sort
set_option maxRecDepth 100000 in
set_option maxHeartbeats 16000000 in
theorem rvLock_c {F:Nat → Prop} (t:ByteArray) (ls:List (Scene × Value)) (v:Value) (w:World) (h:ScL w F t ls v) (hl:ls.length ≤ 91) (hm:MaxLaid w) (he:ErrsLaid w) (hp:PowLaid w)
  (hN:chkE ⟨t,ls.map (·.1)⟩ = 0 → nbE (ls.map (·.1)) = 0 → (∀ y ∈ nbS (ls.map (·.1)),LnOk y ∧ y.paras.length ≤ 61) ∧ SortsK ((nbS (ls.map (·.1))).map (·.no)) 48) :
  Calls Tryz.prog 7 #[.agg #[.string t,v]] w (LockP t (ls.map (·.1)) w):=by
 obtain ⟨i0,hi0,hz0,hz1,hz2⟩:=info_parts (show (Tryz.prog.info? 58).map (fun i=>(i.zero,i.size,i.bytes)) = some (some (.agg #[.string ⟨#[]⟩,.int .i64 0,.string ⟨#[]⟩,.slice none 0 0]),4,64) by kernel_rfl)
 obtain ⟨A,c,rfl,hlc,hcm⟩:=h.sli.form
 obtain ⟨L,hL⟩:∃ L,ls.length = L:=⟨_,rfl⟩
 have htl:=h.tl
 have HSC:=Lib.hid (fun (W:World) (hb:Below w.heap.size w W)=>h.below hb)
 have HMX:=Lib.hid (fun (W:World) (hb:Below w.heap.size w W)=>max_below hm hb (Nat.le_refl _))
 have HER:=Lib.hid (fun (W:World) (hb:Below w.heap.size w W)=>he.below hb (Nat.le_refl _))
 have HPO:=Lib.hid (fun (W:World) (hb:Below w.heap.size w W)=>pow_below hp hb (Nat.le_refl _))
 obtain ⟨xs,hxs⟩:∃ xs,ls.map (·.1) = xs:=⟨_,rfl⟩
 have HXS:=Lib.hid hxs
 have HXL:=Lib.hid (show xs.length = L by rw [← hxs,List.length_map]; exact hL)
 have HL:=Lib.hid hL
 have HCH:=Lib.hid (fun (W:World) (hb:Below w.heap.size w W)=>show Calls Tryz.prog 18 #[.agg #[.string t,.slice A L c]] W (ChP ⟨t,xs⟩ W) from by
  have h1:=Check_c t ls (.slice A ls.length c) W (h.below hb) (max_below hm hb (Nat.le_refl _))
  rw [hL,hxs] at h1
  exact h1)
 have HNU:=Lib.hid (fun (W:World) (hb:Below w.heap.size w W) (hc:chkE ⟨t,xs⟩ = 0)=>show Calls Tryz.prog 19 #[.agg #[.string t,.slice A L c]] W (NbP t xs W) from by
  have h1:=rvNumb_c t ls (.slice A ls.length c) W (h.below hb) hl (by rw [hxs]; exact hc) (max_below hm hb (Nat.le_refl _)) (he.below hb (Nat.le_refl _))
  rw [hL,hxs] at h1
  exact h1)
 have HNN:=Lib.hid hN
 rw [hxs] at HNN
 rw [hL] at hl hlc ⊢
 rw [hxs]
 have m0:BO lfR 58 w [] (.slice none 0 0) [(w.heap.size + 1,drZ,34),(w.heap.size,xCs t (.slice A L c),28)] ((w.alloc (.cells (xCs t (.slice A L c)) 28)).alloc (.cells drZ 34)):=by
  have h:=((BO.start (R:=lfR) (e:=58) w).new (xCs t (.slice A L c)) 28).new drZ 34
  rw [show (w.alloc (.cells (xCs t (.slice A L c)) 28)).heap.size = w.heap.size + 1 by simp] at h
  exact h
 clear h hm he hp hN hL hxs
 go_enter Tryz.func7,Tryz.ntmps7
 go_upto_region 1 with (fail)
 generalize hW:(w.alloc (.cells #[.string t,.slice A L c] 28)).alloc (.cells #[.int .i64 0,.string ⟨#[]⟩,.slice none 0 0,.slice none 0 0,.slice none 0 0] 34) = w1
 have G1:=Lib.hid (show BO lfR 58 w [] (.slice none 0 0) [(w.heap.size + 1,drZ,34),(w.heap.size,xCs t (.slice A L c),28)] w1 by rw [← hW]; exact m0)
 clear m0 hW
 have HXC:=Lib.hid (fun (W:World) (h:BO lfR 58 w [] (.slice none 0 0) [(w.heap.size + 1,drZ,34),(w.heap.size,xCs t (.slice A L c),28)] W)=>show (W.cell? ⟨w.heap.size,0,none⟩ = some (.string t) ∧ W.cell? ⟨w.heap.size,1,none⟩ = some (.slice A L c)) from
  have a:=h.cell (p:=(w.heap.size,xCs t (.slice A L c),28)) (by simp)
  ⟨a.1 0,a.1 1⟩)
 have HRC:=Lib.hid (fun (W:World) (hb:W.heap[w.heap.size + 1]? = some (.cells drZ 34 (0,0)))=>show (W.cell? ⟨w.heap.size + 1,0,none⟩ = some (.int .i64 0) ∧ W.cell? ⟨w.heap.size + 1,1,none⟩ = some (.string ⟨#[]⟩) ∧ W.cell? ⟨w.heap.size + 1,2,none⟩ = some (.slice none 0 0) ∧ W.cell? ⟨w.heap.size + 1,3,none⟩ = some (.slice none 0 0) ∧ W.cell? ⟨w.heap.size + 1,4,none⟩ = some (.slice none 0 0)) ∧ (W.frozen? ⟨w.heap.size + 1,0,none⟩ = false ∧ W.frozen? ⟨w.heap.size + 1,1,none⟩ = false ∧ W.frozen? ⟨w.heap.size + 1,2,none⟩ = false ∧ W.frozen? ⟨w.heap.size + 1,3,none⟩ = false ∧ W.frozen? ⟨w.heap.size + 1,4,none⟩ = false) from
  have a:=str_cells hb
  ⟨⟨a.1 0,a.1 1,a.1 2,a.1 3,a.1 4⟩,a.2 0,a.2 1,a.2 2,a.2 3,a.2 4⟩)
 obtain ⟨d0,d1⟩:=HXC.out w1 G1.out
 have HCK:=Lib.hid (HCH.out w1 G1.out.bel)
 go_wp2_with fail
 refine HCK.out.mono ?_
 rintro e w2 ⟨rfl,hb2⟩
 have G2:=Lib.hid (G1.out.below hb2)
 clear hb2 G1 d0 d1 HCK HCH
 obtain ⟨d0,d1⟩:=HXC.out w2 G2.out
 obtain ⟨⟨y0,y1,y2,y3,y4⟩,f0,f1,f2,f3,f4⟩:=HRC.out w2 (G2.out.prv (w.heap.size + 1,drZ,34) (by simp)).1
 obtain ⟨E,hE⟩:∃ E,chkE ⟨t,xs⟩ = E:=⟨_,rfl⟩
 have HE:=Lib.hid hE
 rw [hE]
 clear hE
 by_cases hE0:E = 0
 case neg=>
  have q1:(E == 0) = false:=beq_eq_false_iff_ne.2 hE0
  have HNO:=Lib.hid (fun (W:World) (hb:Below w.heap.size w W)=>lockP_no (t:=t) (xs:=xs) hE0 (by unfold lockE; rw [HE.out,if_pos hE0]) hb)
  have HB2:=Lib.hid G2.out.bel
  clear hE0 G2 HE HNN HNU
  go_wp2
  refine ⟨rfl,.tuple #[.agg drZ,.int .i64 E],(by rw [results_cell_tmp rfl]; go_simp; rfl),?_⟩
  refine HNO.out _ ?_
  repeat (first | with_reducible exact HB2.out | with_reducible refine Below.drew ?_ | with_reducible refine Below.setCell ?_ (by dsimp only; omega) _)
 subst hE0
 have HNB:=Lib.hid (HNU.out w2 G2.out.bel HE.out)
 clear HNU
 go_wp2_with fail
 refine HNB.out.mono ?_
 rintro e w3 ⟨t',sc,v',rfl,hbi,hnb⟩
 obtain ⟨A5,c5,e5,_,_⟩:=(hbi.bo.own.sli (F:=fun _=>True) (fun _ _ _=>trivial) (fun _ _=>trivial)).form
 subst e5
 unfold xCs
 have HBI:=Lib.hid hbi
 have HNB2:=Lib.hid hnb
 have G3:=Lib.hid (G2.out.below hbi.bo.bel)
 have hzw2:=G2.out.size
 have hz23:=hbi.bo.bel.size
 clear hbi hnb HNB d0 d1 y0 y1 y2 y3 y4 f0 f1 f2 f3 f4
 obtain ⟨⟨y0,y1,y2,y3,y4⟩,f0,f1,f2,f3,f4⟩:=HRC.out w3 (G3.out.prv (w.heap.size + 1,drZ,34) (by simp)).1
 have hR2:w.heap.size + 1 < w2.heap.size:=G2.out.plt (p:=(w.heap.size + 1,drZ,34)) (by simp)
 have hR3:w.heap.size + 1 < w3.heap.size:=by omega
 obtain ⟨E,hE⟩:∃ E,nbE xs = E:=⟨_,rfl⟩
 have HE2:=Lib.hid hE
 rw [hE] at HNB2 ⊢
 clear hE
 by_cases hE0:E = 0
 case neg=>
  have q1:(E == 0) = false:=beq_eq_false_iff_ne.2 hE0
  have HNO:=Lib.hid (fun (W:World) (hb:Below w.heap.size w W)=>lockP_no (t:=t) (xs:=xs) hE0 (by unfold lockE; rw [if_neg (by rw [HE.out]; decide),HE2.out,if_pos hE0]) hb)
  have HB3:=Lib.hid G3.out.bel
  clear hE0 G2 G3 HE HE2 HNN HNB2 HBI
  go_wp2
  refine ⟨rfl,.tuple #[.agg drZ,.int .i64 E],(by rw [results_cell_tmp rfl]; go_simp; rfl),?_⟩
  refine HNO.out _ ?_
  repeat (first | with_reducible exact HB3.out | with_reducible refine Below.alloc ?_ (by simp; omega) _ | with_reducible refine Below.drew ?_ | with_reducible refine Below.setCell ?_ (by dsimp only; omega) _)
 subst hE0
 obtain ⟨ht',hsc⟩:=HNB2.out rfl
 have ht2:=ht'.symm
 subst ht2
 clear ht'
 obtain ⟨hok,hso⟩:=HNN.out HE.out HE2.out
 have hscl:sc.length ≤ 91:=by
  have h1:=congrArg List.length hsc
  rw [List.length_map,nbS_len,HXL.out] at h1
  omega
 have HOK:=Lib.hid (fun (y:Scene × Value) (hy:y ∈ sc)=>hok y.1 (by rw [← hsc]; exact List.mem_map_of_mem hy))
 have HSL:=Lib.hid (scl_of HBI.out htl hscl HOK.out)
 have HSO:=Lib.hid hso
 have HSN:=Lib.hid hsc
 clear HNN HNB2 hok hso hsc G2
 obtain ⟨S,hS⟩:∃ S,sc.length = S:=⟨_,rfl⟩
 have HS:=Lib.hid hS
 rw [hS] at hscl ⊢
 rw [hS] at HBI HSL
 clear hS
 have hz30:=G3.out.size
 have G4:=Lib.hid (show BO lfR 58 w [] (.slice none 0 0) [(w3.heap.size + 1,drC 1 t (.slice A5 S c5) (.slice none 0 0) (.slice none 0 0),34),(w.heap.size + 1,drZ,34)] ((w3.alloc (.cells (xCs t (.slice A5 S c5)) 28)).alloc (.cells (drC 1 t (.slice A5 S c5) (.slice none 0 0) (.slice none 0 0)) 34)) from by
  have h:=((G3.out.less (Q:=[(w.heap.size + 1,drZ,34)]) (by simp)).alloc (.cells (xCs t (.slice A5 S c5)) 28)).new (drC 1 t (.slice A5 S c5) (.slice none 0 0) (.slice none 0 0)) 34
  rw [show (w3.alloc (.cells (xCs t (.slice A5 S c5)) 28)).heap.size = w3.heap.size + 1 by simp] at h
  exact h)
 have HB34:=Lib.hid (show Below w3.heap.size w3 ((w3.alloc (.cells (xCs t (.slice A5 S c5)) 28)).alloc (.cells (drC 1 t (.slice A5 S c5) (.slice none 0 0) (.slice none 0 0)) 34)) from ((Below.refl _ w3).alloc (Nat.le_refl _) _).alloc (by simp) _)
 have hz34:((w3.alloc (.cells (xCs t (.slice A5 S c5)) 28)).alloc (.cells (drC 1 t (.slice A5 S c5) (.slice none 0 0) (.slice none 0 0)) 34)).heap.size = w3.heap.size + 2:=by simp
 unfold xCs drC at G4 HB34 hz34
 have HZ34:=Lib.hid hz34
 clear hz34
 obtain ⟨D,hD⟩:∃ D,w3.heap.size + 1 = D:=⟨_,rfl⟩
 have hD3:w3.heap.size < D:=by omega
 have hDR:¬ w.heap.size + 1 = D:=by omega
 clear y0 y1 y2 y3 y4 f0 f1 f2 f3 f4 G3
 go_upto_region 8 with (fail)
 generalize (w3.alloc (.cells #[.string t,.slice A5 S c5] 28)).alloc (.cells #[.int .i64 1,.string t,.slice A5 S c5,.slice none 0 0,.slice none 0 0] 34) = w4 at *
 rw [hD] at G4
 have HD:=Lib.hid hD
 clear hD
 have hD4:D < w4.heap.size:=by have:=HZ34.out; have:=HD.out; omega
 have hz34:w3.heap.size ≤ w4.heap.size:=by have:=HZ34.out; omega
 have HDC:=Lib.hid (fun (W:World) (lv:Value) (hb:W.heap[D]? = some (.cells (drC 1 t (.slice A5 S c5) (.slice none 0 0) lv) 34 (0,0)))=>show (W.cell? ⟨D,0,none⟩ = some (.int .i64 1) ∧ W.cell? ⟨D,1,none⟩ = some (.string t) ∧ W.cell? ⟨D,2,none⟩ = some (.slice A5 S c5) ∧ W.cell? ⟨D,3,none⟩ = some (.slice none 0 0) ∧ W.cell? ⟨D,4,none⟩ = some lv) ∧ W.frozen? ⟨D,4,none⟩ = false from
  have a:=str_cells hb
  ⟨⟨a.1 0,a.1 1,a.1 2,a.1 3,a.1 4⟩,a.2 4⟩)
 have HDB:=Lib.hid (fun (W:World) (hb:Below w4.heap.size w4 W)=>(HDC.out W (.slice none 0 0) ((hb.block D hD4).trans (G4.out.prv (D,#[.int .i64 1,.string t,.slice A5 S c5,.slice none 0 0,.slice none 0 0],34) (by simp)).1)).1)
 have HSCL:=Lib.hid (fun (W:World) (hb:Below w4.heap.size w4 W)=>show ScL W (fun q=>q < w4.heap.size) t sc (.slice A5 S c5) from by
  have h1:=(HSL.out.below (HB34.out)).below hb
  have h2:=hb.size
  have h3:=HB34.out.size
  exact ⟨h1.sli.more (fun q hq=>by have:=hq.2; omega),fun y hy=>(h1.par y hy).more (fun q hq=>by have:=hq.2; omega),fun q hq=>by omega,h1.tl,h1.len,h1.bd⟩)
 have HB4:=Lib.hid G4.out.bel
 have HEN:=Lib.hid (fun (W:World) (hb:Below w4.heap.size w4 W)=>show Calls Tryz.prog 21 #[.agg #[.int .i64 1,.string t,.slice A5 S c5,.slice none 0 0,.slice none 0 0]] W (EntP (sc.map (·.1.no)) W) from
  entries_c 1 t sc (.slice A5 S c5) none 0 0 W (HSCL.out W hb) (by rw [HS.out]; exact hscl) (HER.out W (HB4.out.trans (hb.mono HB4.out.size))) (by
   have h1:=HSO.out
   rw [← HSN.out,List.map_map] at h1
   exact h1))
 obtain ⟨ι,ff,hne,hff,hfS⟩:=family (fun W=>W.cell? ⟨D,0,none⟩ = some (.int .i64 1) ∧ W.cell? ⟨D,1,none⟩ = some (.string t) ∧ W.cell? ⟨D,2,none⟩ = some (.slice A5 S c5) ∧ W.cell? ⟨D,3,none⟩ = some (.slice none 0 0) ∧ W.cell? ⟨D,4,none⟩ = some (.slice none 0 0)) w4 (HDB.out w4 (Below.refl _ _))
 have hneW:Nonempty World:=⟨w⟩
 have s0:=fun p=>(hff p).1
 have s1:=fun p=>(hff p).2.1
 have s2:=fun p=>(hff p).2.2.1
 have s3:=fun p=>(hff p).2.2.2.1
 have s4:=fun p=>(hff p).2.2.2.2
 have HFS:=Lib.hid hfS
 clear hff hfS
 refine wp_region_segs2 [2,3] [4,5,6,7,8] [] [([],[0,1],2),([],[],3)] (by kernel_rfl) (by kernel_rfl) (fun _ _ _ dd _ h=>by cases dd <;> exact h) (fun W=>∃ p:ι,W = ff p) (HFS.out _ (HDB.out w4 (Below.refl _ _))) ?_
 refine wpSegs2_step (by simp only [pick,List.getElem?_cons_succ,List.getElem?_cons_zero]; rfl) (by simp only [pick,List.getElem?_cons_succ,List.getElem?_cons_zero]; rfl) rfl (fun K0 hK0 L0 hL0=>?_)
 repeat (first | go_big_quiet_step (fail) | quiet_step (fail))
 refine wpQuiet_nil (hL0 _ ?_)
 repeat (first | go_big_quiet_step (fail) | quiet_step (fail))
 refine wpQuiet_nil ?_
 go_simp
 refine (HEN.out w4.drew (Below.refl _ w4).drew).mono ?_
 rintro e w5 ⟨A7,c7,rfl,hns,hb5⟩
 have HB5:=Lib.hid (show Below w4.heap.size w4 w5 from (Below.refl _ w4).drew.trans hb5)
 have HNS:=Lib.hid hns
 refine hK0 (fun W=>∃ p:ι,W = ff p) _ _ (fun _ h=>h) (HFS.out _ (HDB.out _ HB5.out)) ?_
 clear hns hb5 HEN
 have hmn:(sc.map (·.1.no)).length = S:=by rw [List.length_map,HS.out]
 have HMD:=Lib.hid (show Calls Tryz.prog 20 #[.agg #[.int .i64 1,.string t,.slice A5 S c5,.slice none 0 0,.slice none 0 0],.slice A7 S c7] w5 (MadP (sc.map (·.1)) (sc.map (·.1.no)) w5) from by
  have h1:=rvMade_c (F:=fun q=>q < w5.heap.size) 1 t sc (.slice A5 S c5) none none 0 0 0 0 (sc.map (·.1.no)) A7 c7 w5 (by
   have h2:=HSCL.out w5 HB5.out
   have h3:=HB5.out.size
   exact ⟨h2.sli.more (fun q hq=>by omega),fun y hy=>(h2.par y hy).more (fun q hq=>by omega),fun q hq=>hq,h2.tl,h2.len,h2.bd⟩) (fun y hy=>(HOK.out y hy).1) (fun y hy=>(HOK.out y hy).2) (by rw [HS.out]; exact hscl) (HNS.out.more fun q hq=>hq.2) (fun n hn=>by
    obtain ⟨y,hy,rfl⟩:=List.mem_map.1 hn
    have:=(HOK.out y hy).1.sizes.1
    omega) (by rw [hmn]; omega)
  rw [hmn] at h1
  exact h1)
 rw [hmn]
 refine wpSegs2_step (by simp only [pick,List.getElem?_cons_succ,List.getElem?_cons_zero]; rfl) (by simp only [pick,List.getElem?_cons_succ,List.getElem?_cons_zero]; rfl) rfl (fun K1 hK1 L1 hL1=>?_)
 repeat (first | go_big_quiet_step (fail) | quiet_step (fail))
 refine wpQuiet_nil (hL1 _ ?_)
 repeat (first | go_big_quiet_step (fail) | quiet_step (fail))
 refine wpQuiet_nil ?_
 go_simp
 refine HMD.out.mono ?_
 rintro e w6 ⟨Ps,pV,fV,rfl,hb6,hPs,hfl,hP7,hr1,hr2,hr3⟩
 have HB6:=Lib.hid (HB5.out.trans (hb6.mono HB5.out.size))
 refine hK1 (fun W=>∃ p:ι,W = ff p) _ _ (fun _ h=>h) (HFS.out _ (HDB.out _ HB6.out)) ?_
 obtain ⟨A8,c8,e8,_,_⟩:=hr1.form
 obtain ⟨A9,c9,e9,_,_⟩:=hr3.form
 subst e8
 subst e9
 obtain ⟨P,hP⟩:∃ P,Ps.length = P:=⟨_,rfl⟩
 have hfr:frsS (sc.map (·.1)) (sc.map (·.1.no)) = lkFr (nbS xs):=by
  unfold lkFr
  rw [← HSN.out,List.map_map]
  rfl
 have hpg:pagesB (allB2 (sc.map (·.1)) (sc.map (·.1.no))) = lkPg (nbS xs):=by
  unfold lkPg
  rw [← HSN.out,List.map_map]
  rfl
 rw [hfr] at hfl hr3 ⊢
 rw [hpg] at hPs
 obtain ⟨fs,hfs⟩:∃ fs,lkFr (nbS xs) = fs:=⟨_,rfl⟩
 have HFN:=Lib.hid hfs
 rw [hfs] at hfl hr3 ⊢
 have HPS:=Lib.hid hPs
 have HPL:=Lib.hid hP
 have HFL:=Lib.hid (hfl.trans hP)
 have HR1:=Lib.hid hr1
 have HR2:=Lib.hid hr2
 have HR3:=Lib.hid hr3
 have HPX:=Lib.hid (show (lkPg (nbS xs)).length = P by rw [← hPs,List.length_map,hP])
 rw [hfl,hP,List.length_map,hP]
 rw [hP] at hP7
 have hz56:=hb6.size
 have hz45:=HB5.out.size
 have G6:=Lib.hid (G4.out.below HB6.out)
 clear HMD s0 s1 s2 s3 s4 HFS hr1 hr2 hr3 hfl hP hPs hfr hpg hfs hb6 G4 HNS hmn
 refine wpSegs2_fin (by simp only [pick,List.getElem?_cons_succ,List.getElem?_cons_zero]; rfl) (by simp only [pick,List.getElem?_cons_succ,List.getElem?_cons_zero]; rfl) (fun L2 hL2=>?_)
 repeat (first | go_big_quiet_step (fail) | quiet_step (fail))
 refine wpQuiet_nil (hL2 _ ?_)
 repeat (first | go_big_quiet_step (fail) | quiet_step (fail))
 refine wpQuiet_nil ?_
 obtain ⟨⟨y0,y1,y2,y3,y4⟩,f0,f1,f2,f3,f4⟩:=HRC.out w6 (G6.out.prv (w.heap.size + 1,drZ,34) (by simp)).1
 by_cases h999:999 < P
 ·have HNO:=Lib.hid (fun (W:World) (hb:Below w.heap.size w W)=>lockP_no (t:=t) (xs:=xs) (z:=2) (by decide) (by unfold lockE; rw [if_neg (by rw [HE.out]; decide),if_neg (by rw [HE2.out]; decide),if_pos (by rw [HPX.out]; exact h999)]) hb)
  have HB7:=Lib.hid G6.out.bel
  have hi:(999:Int) < (P:Int):=by omega
  have hR6:w.heap.size + 1 < w6.heap.size:=by omega
  clear G6 HE HE2
  go_wp2
  refine ⟨rfl,.tuple #[.agg drZ,.int .i64 2],(by rw [results_cell_tmp rfl]; go_simp; rfl),?_⟩
  refine HNO.out _ ?_
  repeat (first | with_reducible exact HB7.out | with_reducible refine Below.drew ?_ | with_reducible refine Below.setCell ?_ (by dsimp only; omega) _)
 have hi:¬ (999:Int) < (P:Int):=by omega
 clear y0 y1 y2 y3 y4 f0 f1 f2 f3 f4
 have HK6:=Lib.hid (show KQ w6.heap.size D w6 w6 (.slice none 0 0) from ⟨Nat.le_refl _,fun q hq hD=>⟨rfl,fun e=>by cases e⟩⟩)
 have hD5:D < w5.heap.size:=by omega
 go_wp2
 go_loopw [42] (fun iv wr=>∃ (i:Nat) (lv:Value),i ≤ P ∧ iv = .int .i64 i ∧ Hid (BO lfR 58 w (lvs fs Ps i) lv [(D,#[.int .i64 1,.string t,.slice A5 S c5,.slice none 0 0,lv],34),(w.heap.size + 1,drZ,34)] wr) ∧ Hid (KQ w6.heap.size D w6 wr lv)) (fun iv _=>P - (intOf iv).toNat)
 case atStart=>exact ⟨0,_,Nat.zero_le _,rfl,G6,HK6⟩
 case round=>
  clear G6 HK6
  obtain ⟨i,lv,hi2,rfl,HO,HK⟩:=hrel
  have hll:=lvs_len fs Ps i
  obtain ⟨A6,c6,hv6,_,_⟩:=(HO.out.own.sliF (enc:=lfC) (hn:=fun _=>rfl) (F:=fun _=>True) (fun _ _=>trivial)).form
  rw [hll] at hv6
  subst hv6
  have hzo:=HO.out.size
  by_cases hlt:i < P
  ·have hil:i < Ps.length:=by rw [HPL.out]; exact hlt
   have hif:i < fs.length:=by rw [HFL.out]; exact hlt
   obtain ⟨bp,op,rfl,hbp,c0⟩:=valAt (HK.out.sli HR1.out (fun q hq=>⟨hq.2,by have:=hq.1; omega⟩)) i (by rw [List.length_map]; exact hil)
   obtain ⟨bf,of,rfl,hbf,c1⟩:=strAt HR3.out i hif
   obtain ⟨A10,c10,e10,_,_⟩:=(HR2.out _ (List.getElem_mem hil)).form
   rw [List.getElem_map,e10] at c0
   have HST:=Lib.hid (show lvs fs Ps (i + 1) = lvs fs Ps i ++ [(itN i,1,fs[i]'hif,.slice A10 (Ps[i]'hil).1.length c10)] by
    rw [lvs,List.getElem?_eq_getElem hif,List.getElem?_eq_getElem hil,Option.map_some,e10]
    rfl)
   have HFC:=Lib.hid (fun (W:World) (v:Value) (hk:KQ w6.heap.size D w6 W v)=>show W.cell? ⟨bf,of + i,none⟩ = some (.string (fs[i]'hif)) from
    (World.cell?_of_block (a:=⟨bf,of + i,none⟩) (hk.2 bf hbf.2 (by have:=hbf.1; omega)).1).trans c1)
   generalize fs[i]'hif = f at *
   generalize (Ps[i]'hil).1.length = n10 at *
   generalize lvs fs Ps i = acc at *
   clear c1 e10 hil hif
   have HDS:=Lib.hid (fun (W:World) (l2:List LfT) (v:Value) (hb:BO lfR 58 w l2 v [(D,#[.int .i64 1,.string t,.slice A5 S c5,.slice none 0 0,.slice A6 i c6],34),(w.heap.size + 1,drZ,34)] W)=>show W.cell? ⟨D,4,none⟩ = some (.slice A6 i c6) ∧ W.frozen? ⟨D,4,none⟩ = false from
    have a:=str_cells (hb.prv (D,#[.int .i64 1,.string t,.slice A5 S c5,.slice none 0 0,.slice A6 i c6],34) (by simp)).1
    ⟨a.1 4,a.2 4⟩)
   go_upto_region 14 with (fail)
   clear c0
   obtain ⟨ι,ff,hne,hff,hfS⟩:=family (fun W=>W.cell? ⟨D,4,none⟩ = some (.slice A6 i c6) ∧ W.cell? ⟨bf,of + i,none⟩ = some (.string f)) wr ⟨(HDS.out _ _ _ HO.out).1,HFC.out _ _ HK.out⟩
   have hneW:Nonempty World:=⟨w⟩
   have s0:=fun p=>(hff p).1
   have s1:=fun p=>(hff p).2
   have HFS:=Lib.hid hfS
   clear hff hfS
   refine wp_region_segs2 [4,11,12] [] [] [([0,2,3,5,6,7,9],[1,8],4),([10],[],11),([],[],12),([13],[],14)] (by kernel_rfl) (by kernel_rfl) (fun _ _ _ dd _ h=>by cases dd <;> exact h) (fun W=>∃ p:ι,W = ff p) (HFS.out _ ⟨(HDS.out _ _ _ HO.out).1,HFC.out _ _ HK.out⟩) ?_
   refine wpSegs2_step (by simp only [pick,List.getElem?_cons_succ,List.getElem?_cons_zero]; rfl) (by simp only [pick,List.getElem?_cons_succ,List.getElem?_cons_zero]; rfl) rfl (fun K0 hK0 L0 hL0=>?_)
   repeat (first | go_big_quiet_step (fail) | quiet_step (fail))
   refine wpQuiet_nil (hL0 _ ?_)
   repeat (first | go_big_quiet_step (fail) | quiet_step (fail))
   refine wpQuiet_nil ?_
   go_simp
   refine (itoa_c ((i:Int) + 1) wr.drew ⟨by omega,by omega⟩ (HPO.out _ HO.out.bel.drew)).mono ?_
   rintro e w7 ⟨rfl,hb7⟩
   have G7:=Lib.hid (HO.out.drew.below hb7)
   have K7:=Lib.hid ((HK.out.below (Below.refl _ wr).drew).below hb7)
   have hz7:=G7.out.size
   refine hK0 (fun W=>∃ p:ι,W = ff p) _ _ (fun _ h=>h) (HFS.out _ ⟨(HDS.out _ _ _ G7.out).1,HFC.out _ _ K7.out⟩) ?_
   clear hb7 HO HK
   refine wpSegs2_step (by simp only [pick,List.getElem?_cons_succ,List.getElem?_cons_zero]; rfl) (by simp only [pick,List.getElem?_cons_succ,List.getElem?_cons_zero]; rfl) rfl (fun K1 hK1 L1 hL1=>?_)
   repeat (first | go_big_quiet_step (fail) | quiet_step (fail))
   refine wpQuiet_nil (hL1 _ ?_)
   repeat (first | go_big_quiet_step (fail) | quiet_step (fail))
   refine wpQuiet_nil ?_
   go_simp
   have G8:=Lib.hid (G7.out.alloc (.cells #[.string (itN i),.int .i64 1,.string f,.slice A10 n10 c10] 58))
   have K8:=Lib.hid (K7.out.alloc (.cells #[.string (itN i),.int .i64 1,.string f,.slice A10 n10 c10] 58))
   have HNEW:=Lib.hid (heap_alloc_new w7 (.cells #[.string (itN i),.int .i64 1,.string f,.slice A10 n10 c10] 58))
   have hz8:w.heap.size ≤ (w7.alloc (.cells #[.string (itN i),.int .i64 1,.string f,.slice A10 n10 c10] 58)).heap.size:=G8.out.size
   refine hK1 (fun W=>∃ p:ι,W = ff p) _ _ (fun _ h=>h) (HFS.out _ ⟨(HDS.out _ _ _ G8.out).1,HFC.out _ _ K8.out⟩) ?_
   clear G7 K7
   refine wpSegs2_step (by simp only [pick,List.getElem?_cons_succ,List.getElem?_cons_zero]; rfl) (by simp only [pick,List.getElem?_cons_succ,List.getElem?_cons_zero]; rfl) rfl (fun K2 hK2 L2 hL2=>?_)
   repeat (first | go_big_quiet_step (fail) | quiet_step (fail))
   refine wpQuiet_nil (hL2 _ ?_)
   repeat (first | go_big_quiet_step (fail) | quiet_step (fail))
   refine wpQuiet_nil ?_
   refine oper_push (R:=lfR) rfl _ _ _ rfl w.heap.size w.heap.size 58 i0 _ 64 Tryz.underlying32 hi0 hz0 hz1 hz2 rfl (by decide) _ (.slice A6 i c6) acc rfl G8.out.own ((itN i,1,f,.slice A10 n10 c10):LfT) _ rfl (by intro u hu; simp [lfC] at hu; rcases hu with rfl | rfl | rfl | rfl <;> rfl) w7.heap.size _ _ HNEW.out rfl (by rw [hll]; unfold maxLen; omega) (by rw [hll]; omega) hz8 ?_
   intro g cap8 w8 hown8 hg8 hat8 hlt8
   have G9:=Lib.hid (G8.out.more hown8 hg8 rfl hat8)
   have K9:=Lib.hid (K8.out.more (v':=.slice (some ⟨g,0,none⟩) (acc.length + 1) cap8) hg8 rfl hat8)
   refine hK2 (fun W=>∃ p:ι,W = ff p) _ _ (fun _ h=>h) (HFS.out _ ⟨(HDS.out _ _ _ G9.out).1,HFC.out _ _ K9.out⟩) ?_
   have f8:=(HDS.out _ _ _ G9.out).2
   have c8:=(HDS.out _ _ _ G9.out).1
   rw [hll] at G9 K9 ⊢
   have GA:=Lib.hid (G9.out.set (i:=4) (fun h=>h) (.slice (some ⟨g,0,none⟩) (i + 1) cap8) (fun p hp=>by rw [List.mem_singleton.1 hp]; exact hDR))
   have KA:=Lib.hid (K9.out.set 4 (.slice (some ⟨g,0,none⟩) (i + 1) cap8))
   clear hown8 hg8 hat8 hlt8 G8 K8 G9 K9 HNEW
   refine wpSegs2_last (by simp only [pick,List.getElem?_cons_succ,List.getElem?_cons_zero]; rfl) (by simp only [pick,List.getElem?_cons_succ,List.getElem?_cons_zero]; rfl) rfl (by rfl) (fun K3 hK3 L3 hL3=>?_)
   repeat (first | go_big_quiet_step (fail) | quiet_step (fail))
   refine wpQuiet_nil (hL3 _ ?_)
   repeat (first | go_big_quiet_step (fail) | quiet_step (fail))
   refine wpQuiet_nil ?_
   go_simp
   refine hK3 _ _ (wpSegs2_end ?_)
   clear s0 s1 f8 c8 hz8
   go_wp2
   go_roundw
   case rel=>exact ⟨i + 1,_,by omega,intNum,Lib.hid (by rw [HST.out]; exact GA.out),KA⟩
   case measure=>simp [intOf]; omega
  ·have hiP:i = P:=by omega
   subst hiP
   obtain ⟨⟨z0,z1,z2,z3,z4⟩,_⟩:=HDC.out wr _ (HO.out.prv (D,#[.int .i64 1,.string t,.slice A5 S c5,.slice none 0 0,.slice A6 i c6],34) (by simp)).1
   obtain ⟨⟨y0,y1,y2,y3,y4⟩,f0,f1,f2,f3,f4⟩:=HRC.out wr (HO.out.prv (w.heap.size + 1,drZ,34) (by simp)).1
   have hR6:w.heap.size + 1 < wr.heap.size:=HO.out.plt (p:=(w.heap.size + 1,drZ,34)) (by simp)
   have hlk:lockE ⟨t,xs⟩ = 0:=by
    unfold lockE
    rw [if_neg (by rw [HE.out]; decide),if_neg (by rw [HE2.out]; decide),if_neg (by rw [HPX.out]; exact h999)]
   have HLK:=Lib.hid hlk
   have HEND:=Lib.hid (fun (W:World) (hW:∀ q,q ≠ w.heap.size + 1 → W.heap[q]? = wr.heap[q]?) (hz:wr.heap.size ≤ W.heap.size) (hb:Below w.heap.size w W)=>show LockP t xs w (.returned (.tuple #[.agg (drC 1 t (.slice A5 S c5) (.slice none 0 0) (.slice A6 i c6)),.int .i64 0])) W from by
    have hzk:=HK.out.1
    have h34:=HB34.out.size
    have hs3:=(HSL.out.below HB34.out).below HB6.out
    refine ⟨_,by rw [HLK.out],hb,fun h=>absurd HLK.out h,fun _=>⟨sc,_,_,Ps,rfl,HSN.out,HPS.out,by rw [HFN.out,HFL.out,HPL.out],?_,fun y hy=>?_,fun q hq=>?_,?_⟩⟩
    ·exact ((HK.out.sli hs3.sli (fun q hq=>by have:=hq.2; omega)).keep fun q hq=>hW q (by have:=hq.1; omega)).more fun q hq=>⟨by have:=hq.1; omega,by have:=hq.2; omega⟩
    ·exact ((HK.out.sli (hs3.par y hy) (fun q hq=>by have:=hq.2; omega)).keep fun q hq=>hW q (by have:=hq.1; omega)).more fun q hq=>⟨by have:=hq.1; omega,by have:=hq.2; omega⟩
    ·exact ((HK.out.sli (HR2.out q hq) (fun q hq=>⟨hq.2,by have:=hq.1; omega⟩)).keep fun q hq=>hW q (by have:=hq.1; omega)).more fun q hq=>⟨by have:=hq.1; omega,by have:=hq.2; omega⟩
    ·have ho:=HO.out.own
     rw [HFN.out,HPL.out]
     exact ((ho.sliF (enc:=lfC) (hn:=fun _=>rfl) (F:=fun q=>w.heap.size ≤ q ∧ q < wr.heap.size ∧ q ≠ w.heap.size + 1) (fun g hg=>⟨(ho.block g hg).1,(ho.block g hg).2,fun e=>(HO.out.prv (w.heap.size + 1,drZ,34) (by simp)).2.2 (by rw [hg,e])⟩)).keep fun q hq=>hW q hq.2.2).more fun q hq=>⟨hq.1,by have:=hq.2; omega⟩)
   have HBW:=Lib.hid HO.out.bel
   clear hlk HO HK
   go_wp2
   refine ⟨rfl,.tuple #[.agg (drC 1 t (.slice A5 S c5) (.slice none 0 0) (.slice A6 i c6)),.int .i64 0],(by rw [results_cell_tmp rfl]; go_simp; rfl),?_⟩
   refine HEND.out _ (fun q hq=>?_) ?_ ?_
   ·simp only [Below.heap_setCell _ ⟨w.heap.size + 1,_,none⟩ _ q hq]
   ·simp
   ·repeat (first | with_reducible exact HBW.out | with_reducible refine Below.drew ?_ | with_reducible refine Below.setCell ?_ (by dsimp only; omega) _)
end
end Go.Proofs.YtaoobkgepcikiaaGreatDoor
