/- Texts packed: SheC, SheF, SreW, EnW. -/
import Derived.Test.YtaoobkgepcikiaaGreatDoorSc38
import Derived.Test.YtaoobkgepcikiaaGreatDoorSc36
import Derived.Test.YtaoobkgepcikiaaGreatDoorSc37
import Derived.Test.YtaoobkgepcikiaaGreatDoorSc01
namespace Go.Proofs.YtaoobkgepcikiaaGreatDoor
set_option linter.unusedVariables false
section
open Go.RowKit Go.Sort
set_option maxRecDepth 100000 in
set_option maxHeartbeats 4000000 in
theorem room_c {W0:World} (o:Nat) (Ps:List PgL) (pg:List ByteArray) (pv v:Value) (Rs:List Row) (X:List Pc) (w:World) (h:ShM W0 o (Ps ++ [(pg,pv)]) v Rs X w) (hl:pg.length ≤ 1000000) (hp:Ps.length ≤ 1000000000) :
  Calls Tryz.prog 175 #[.pointer (some ⟨o,0,none⟩)] w (InP (54 - (pg.length:Int)) w):=by
 obtain ⟨⟨g,c,rfl,h1,_,h3,_,_⟩,⟨A2,c2,rfl⟩,_⟩:=h.last
 obtain ⟨b1,_,b3⟩:=h.box
 have HB:=Lib.hid (show Below w.heap.size w w.drew from ⟨rfl,rfl,rfl,Nat.le_refl _,fun _ _=>rfl⟩)
 have HB1:=Lib.hid (Below.refl w.heap.size w)
 clear h
 generalize pg.length = m at *
 generalize Ps.length = n at *
 have r1:IntKind.i64.wrap ((n:Int) + 1 - 1) = (n:Int):=by rw [show (n:Int) + 1 - 1 = (n:Int) by omega]; exact IntWalk.i64_in _ (by omega)
 have r2:IntKind.i64.wrap (n:Int) = (n:Int):=IntWalk.i64_in _ (by omega)
 have r3:IntKind.i64.wrap (54 - (m:Int)) = 54 - (m:Int):=IntWalk.i64_in _ (by omega)
 have e0:((n:Int) + 1 == 0) = false:=by rw [beq_eq_false_iff_ne]; omega
 go_enter Tryz.func175,Tryz.ntmps175
 go_upto_region 3 with (fail)
 go_region
 go_wp2
 go_ret
 exact ⟨rfl,by first | exact HB.out | exact HB1.out⟩
def PutP (W0:World) (o:Nat) (Ps:List PgL) (pg:List ByteArray) (v:Value) (Rs:List Row) (X:List Pc) (e:Ending) (w':World):Prop:=e = .returned (.tuple #[]) ∧ ∃ pv,ShM W0 o (Ps ++ [(pg,pv)]) v Rs X w'
set_option maxRecDepth 100000 in
set_option maxHeartbeats 4000000 in
theorem put_c {W0:World} {F:Nat → Prop} (o:Nat) (Ps:List PgL) (pg:List ByteArray) (pv v:Value) (Rs:List Row) (X:List Pc) (ys:List ByteArray) (A:Option Addr) (m c:Nat) (w:World) (h:ShM W0 o (Ps ++ [(pg,pv)]) v Rs X w) (hy:Sli strR w F ys (.slice A m c)) (hm:ys.length = m) (hl:pg.length + m ≤ 1000000) (hp:Ps.length ≤ 1000000000) :
  Calls Tryz.prog 177 #[.pointer (some ⟨o,0,none⟩),.slice A m c] w (PutP W0 o Ps (pg ++ ys) v Rs X):=by
 obtain ⟨i0,hi0,hz0,hz1,hz2⟩:=info_parts (show (Tryz.prog.info? 9).map (fun i=>(i.zero,i.size,i.bytes)) = some (some (.string ⟨#[]⟩),1,16) by kernel_rfl)
 obtain ⟨⟨g,c1,rfl,h1,h2,h3,h4,h5⟩,⟨A2,c2,rfl⟩,_⟩:=h.last
 obtain ⟨b1,b2,b3⟩:=h.box
 have HNE:=Lib.hid h.ne
 have HFR:=Lib.hid h.front.drew
 have HSY:=Lib.hid hy.drew
 have HM:=Lib.hid hm
 have HC:=Lib.hid (And.intro b1 h1)
 clear h hy hm
 have r1:IntKind.i64.wrap ((Ps.length:Int) + 1 - 1) = (Ps.length:Int):=by rw [show (Ps.length:Int) + 1 - 1 = (Ps.length:Int) by omega]; exact IntWalk.i64_in _ (by omega)
 have r2:IntKind.i64.wrap (Ps.length:Int) = (Ps.length:Int):=IntWalk.i64_in _ (by omega)
 go_enter Tryz.func177,Tryz.ntmps177
 go_upto_region 1 with (fail)
 obtain ⟨ι,ff,hne,hff,hfS⟩:=family (fun W=>W.cell? ⟨o,0,none⟩ = some (.slice (some ⟨g,0,none⟩) (Ps.length + 1) c1) ∧ W.cell? ⟨g,Ps.length,none⟩ = some (.slice A2 pg.length c2)) w HC.out
 have hneW:Nonempty World:=⟨w⟩
 have s0:=fun p=>(hff p).1
 have s1:=fun p=>(hff p).2
 have HFS:=Lib.hid hfS
 clear hff hfS b1 h1
 refine wp_region_segs2 [13] [] [] [([0,1,2,4,5,6,7,9,12],[3,8,10,11],13),([14],[],15)] (by kernel_rfl) (by kernel_rfl) (fun _ _ _ dd _ h=>by cases dd <;> exact h) (fun W=>∃ p:ι,W = ff p) (HFS.out _ HC.out) ?_
 refine wpSegs2_step (by simp only [pick,List.getElem?_cons_succ,List.getElem?_cons_zero]; rfl) (by simp only [pick,List.getElem?_cons_succ,List.getElem?_cons_zero]; rfl) rfl (fun K0 hK0 L0 hL0=>?_)
 repeat (first | go_big_quiet_step (fail) | quiet_step (fail))
 refine wpQuiet_nil (hL0 _ ?_)
 repeat (first | go_big_quiet_step (fail) | quiet_step (fail))
 refine wpQuiet_nil ?_
 refine oper_mrApp _ _ _ rfl 9 i0 _ 16 Tryz.underlying31 hi0 hz0 hz1 hz2 rfl _ (.slice A2 pg.length c2) pg rfl HFR.out ys A m c rfl HSY.out HM.out (by unfold maxLen; omega) (by omega) ?_
 intro v' w' hM
 obtain ⟨A3,n3,c3,rfl⟩:∃ A n c,v' = .slice A n c:=by
  obtain ⟨A,c,e⟩:=own_sl (hM.own _ (List.mem_cons_self ..))
  exact ⟨A,_,c,e⟩
 have hS:=hM.perm (List.Perm.swap _ _ _)
 obtain ⟨g',c',eg,k1,k2,k3,_⟩:=hS.at_ (k:=Ps.length) (by simp)
 obtain rfl:g = g':=by
  injection eg with e1 _ _
  injection e1 with e1
  injection e1
 have k1':w'.cell? ⟨g,Ps.length,none⟩ = some (.slice A2 pg.length c2):=by rw [k1]; simp
 have q1:w'.cell? ⟨o,0,none⟩ = some (.slice (some ⟨g,0,none⟩) (Ps.length + 1) c1):=(hM.cell (p:=(o,#[.slice (some ⟨g,0,none⟩) (Ps.length + 1) c1],160)) (by simp)).1 0
 have HP:=Lib.hid (ShM.put hM HNE.out)
 refine hK0 (fun W=>∃ p:ι,W = ff p) _ _ (fun _ h=>h) (HFS.out _ ⟨q1,k1'⟩) ?_
 clear hM hS eg k1
 simp only [Act.put,List.setIfInBounds_toArray,List.set_cons_zero,List.set_cons_succ]
 refine wpSegs2_last (by simp only [pick,List.getElem?_cons_succ,List.getElem?_cons_zero]; rfl) (by simp only [pick,List.getElem?_cons_succ,List.getElem?_cons_zero]; rfl) rfl (by rfl) (fun K1 hK1 L1 hL1=>?_)
 repeat (first | go_big_quiet_step (fail) | quiet_step (fail))
 refine wpQuiet_nil (hL1 _ ?_)
 repeat (first | go_big_quiet_step (fail) | quiet_step (fail))
 refine wpQuiet_nil ?_
 go_simp
 refine hK1 _ _ (wpSegs2_end ?_)
 clear s0 s1
 go_wp2
 go_end0
 exact ⟨rfl,_,HP.out⟩
end
section
open Go.RowKit Go.Sort
abbrev ScB:=List BkT × Value
structure RbS (w:World) (F:Nat → Prop) (L:List ScB) (v:Value):Prop where
 sli:Sli valR w F (L.map (·.2)) v
 blk:∀ y ∈ L,Sli rbR w F y.1 y.2
 ln:∀ y ∈ L,∀ x ∈ y.1,Sli strR w F x.1.lines x.2.1
 kd:∀ y ∈ L,∀ x ∈ y.1,Sli boR w F x.1.kinds x.2.2
theorem RbS.keep {w w':World} {F G:Nat → Prop} {L:List ScB} {v:Value} (h:RbS w F L v) (hk:∀ q,F q → w'.heap[q]? = w.heap[q]?) (hm:∀ q,F q → G q):RbS w' G L v:=
 ⟨(h.sli.keep hk).more hm,fun y hy=>((h.blk y hy).keep hk).more hm,fun y hy x hx=>((h.ln y hy x hx).keep hk).more hm,fun y hy x hx=>((h.kd y hy x hx).keep hk).more hm⟩
theorem RbS.below {w w':World} {F:Nat → Prop} {L:List ScB} {v:Value} (h:RbS w F L v) (hb:Below w.heap.size w w') (hF:∀ q,F q → q < w.heap.size):RbS w' F L v:=h.keep (fun q hq=>hb.block q (hF q hq)) (fun _ hq=>hq)
theorem RbN.parts {w wx:World} {l:List BkT} {v:Value} {P:List Pc} (h:RbN w l v P wx):Sli rbR wx (fun q=>w.heap.size ≤ q ∧ q < wx.heap.size) l v ∧ (∀ y ∈ l,Sli strR wx (fun q=>w.heap.size ≤ q ∧ q < wx.heap.size) y.1.lines y.2.1) ∧ ∀ y ∈ l,Sli boR wx (fun q=>w.heap.size ≤ q ∧ q < wx.heap.size) y.1.kinds y.2.2:=by
 refine ⟨h.bo.own.sli (fun b h1 h2=>⟨h1,h2⟩) (fun g hg=>h.bo.own.block g hg),fun y hy=>?_,fun y hy=>?_⟩
 ·obtain ⟨j,hj⟩:=List.mem_iff_getElem?.1 hy
  have hr:=Own.strs (h.row false j y hj).1
  exact hr.sli (fun b h1 h2=>⟨h1,h2⟩) (fun g hg=>hr.block g hg)
 ·obtain ⟨j,hj⟩:=List.mem_iff_getElem?.1 hy
  have hr:Own valR wx w.heap.size w.heap.size 4 (y.1.kinds.map fun k:Nat=>Value.bool (decide (k = 2))) y.2.2:=(h.row true j y hj).1
  have hq:Own boR wx w.heap.size w.heap.size 4 y.1.kinds y.2.2:=Own.recode hr (by simp) fun i x x' hx hx'=>by rw [List.getElem?_map,hx'] at hx; cases hx; rfl
  exact hq.sli (fun b h1 h2=>⟨h1,h2⟩) (fun g hg=>hq.block g hg)
section
variable {w wx wy:World} {L:List ScB} {v:Value}
end
end
section
open Go.RowKit Go.Sort
abbrev EnT:=ByteArray × ScB
def enC (y:EnT):List Value:=[.string y.1,y.2.2]
def enR:Rep EnT:=Rep.flat 2 enC (fun _=>rfl)
theorem enAt {w:World} {F:Nat → Prop} {l:List EnT} {A:Option Addr} {n c:Nat} (h:Sli enR w F l (.slice A n c)) (k:Nat) (hk:k < l.length):∃ b off,A = some ⟨b,off,none⟩ ∧ F b ∧ w.cell? ⟨b,off + k * 2,none⟩ = some (.string l[k].1) ∧ w.cell? ⟨b,off + k * 2 + 1,none⟩ = some l[k].2.2:=by
 obtain ⟨b,off,a,e,hb,hr,hc⟩:=h.at_ k hk
 have ha:a = enC l[k]:=hr
 subst ha
 exact ⟨b,off,e,hb,hc 0 _ rfl,hc 1 _ rfl⟩
structure SrD (l:List EnT) (F:Nat → Prop) (A:Option Addr) (c:Nat) (w:World):Prop where
 sli:Sli enR w F l (.slice A l.length c)
 lt:∀ q,F q → q < w.heap.size
 er:ErrsLaid w
 fm:∀ y ∈ l,∃ B c,y.2.2 = .slice B y.2.1.length c
theorem SrD.below {l:List EnT} {F:Nat → Prop} {A:Option Addr} {c:Nat} {w w':World} (h:SrD l F A c w) (hb:Below w.heap.size w w'):SrD l F A c w':=
 ⟨h.sli.below hb h.lt,fun q hq=>Nat.lt_of_lt_of_le (h.lt q hq) hb.size,h.er.below hb (Nat.le_refl _),h.fm⟩
set_option maxRecDepth 100000 in
set_option maxHeartbeats 2000000 in
theorem enCmp_c (x y:ByteArray) (B1 B2:Option Addr) (n1 n2 c1 c2:Nat) (w:World) (hx:x.size ≤ 10000) (hy:y.size ≤ 10000) (he:ErrsLaid w) :
  Calls Tryz.prog 62 #[.agg #[.string x,.slice B1 n1 c1],.agg #[.string y,.slice B2 n2 c2]] w (CmpP (cmpN x y) w):=by
 have HB:=Lib.hid (((Below.refl w.heap.size w).alloc (Nat.le_refl _) (.cells #[.string x,.slice B1 n1 c1] 111)).alloc (by simp) (.cells #[.string y,.slice B2 n2 c2] 111))
 have y1:=(str_cells ((Below.heap_alloc (w.alloc (.cells #[.string x,.slice B1 n1 c1] 111)) (.cells #[.string y,.slice B2 n2 c2] 111) w.heap.size (by simp)).trans (heap_alloc_new w (.cells #[.string x,.slice B1 n1 c1] 111)))).1
 have z1:=(str_cells (heap_alloc_new (w.alloc (.cells #[.string x,.slice B1 n1 c1] 111)) (.cells #[.string y,.slice B2 n2 c2] 111))).1
 rw [show (w.alloc (.cells #[.string x,.slice B1 n1 c1] 111)).heap.size = w.heap.size + 1 by simp] at z1
 have HY:=Lib.hid y1
 have HZ:=Lib.hid z1
 have HER:=Lib.hid (fun (W:World) (hb:Below w.heap.size w W)=>he.below hb (Nat.le_refl _))
 clear y1 z1 he
 go_enter Tryz.func62,Tryz.ntmps62
 go_upto_region 1 with (fail)
 generalize (w.alloc (.cells #[.string x,.slice B1 n1 c1] 111)).alloc (.cells #[.string y,.slice B2 n2 c2] 111) = w1 at *
 have e0:w1.cell? ⟨w.heap.size,0,none⟩ = some (.string x):=HY.out 0
 have e1:w1.cell? ⟨w.heap.size + 1,0,none⟩ = some (.string y):=HZ.out 0
 have HNO:=Lib.hid (NumbersOrder_c x y w1 hx hy (HER.out w1 HB.out))
 clear HY HZ
 go_wp2_with fail
 refine HNO.out.mono ?_
 rintro e w2 ⟨rfl,hb2⟩
 have HB2:=Lib.hid (HB.out.trans (hb2.mono HB.out.size))
 clear hb2
 go_wp2
 go_ret
 exact ⟨rfl,HB2.out⟩
theorem SrD.two {l:List EnT} {F:Nat → Prop} {A:Option Addr} {c:Nat} {w:World} (h:SrD l F A c w) (hR:RisK (l.map (·.1))) (i j:Nat) (hij:i < j) (hj:j < l.length) :
  ∃ (o f:Nat) (x y:ByteArray) (vx vy:Value) (z:Int),A = some ⟨o,f,none⟩ ∧ 0 ≤ z ∧ (∀ d os,(Sort.grow (redrawn w d) os).cell? ⟨o,f + j * 2,none⟩ = some (.string x)) ∧ (∀ d os,(Sort.grow (redrawn w d) os).cell? ⟨o,f + i * 2,none⟩ = some (.string y)) ∧
   (∀ d os,(Sort.grow (redrawn w d) os).cell? ⟨o,f + j * 2 + 1,none⟩ = some vx) ∧ (∀ d os,(Sort.grow (redrawn w d) os).cell? ⟨o,f + i * 2 + 1,none⟩ = some vy) ∧
   ∀ d os,Calls Tryz.prog 62 #[.agg #[.string x,vx],.agg #[.string y,vy]] (Sort.grow (redrawn w d) os) (CmpP z (Sort.grow (redrawn w d) os)):=by
 have hW:∀ d os,SrD l F A c (Sort.grow (redrawn w d) os):=fun d os=>h.below (below_regrown w d os)
 obtain ⟨o,f,eA,_,_⟩:=enAt h.sli j hj
 obtain ⟨B1,c1,f1⟩:=h.fm _ (List.getElem_mem hj)
 obtain ⟨B2,c2,f2⟩:=h.fm _ (List.getElem_mem (by omega:i < l.length))
 have hup:=hR.up i j hij (by rw [List.length_map]; exact hj)
 rw [List.getElem_map,List.getElem_map] at hup
 refine ⟨o,f,l[j].1,(l[i]'(by omega)).1,l[j].2.2,(l[i]'(by omega)).2.2,cmpN l[j].1 (l[i]'(by omega)).1,eA,hup,fun d os=>?_,fun d os=>?_,fun d os=>?_,fun d os=>?_,fun d os=>?_⟩
 ·obtain ⟨o',f',eA',_,q,_⟩:=enAt (hW d os).sli j hj
  rw [eA] at eA'
  cases eA'
  exact q
 ·obtain ⟨o',f',eA',_,q,_⟩:=enAt (hW d os).sli i (by omega)
  rw [eA] at eA'
  cases eA'
  exact q
 ·obtain ⟨o',f',eA',_,_,q⟩:=enAt (hW d os).sli j hj
  rw [eA] at eA'
  cases eA'
  exact q
 ·obtain ⟨o',f',eA',_,_,q⟩:=enAt (hW d os).sli i (by omega)
  rw [eA] at eA'
  cases eA'
  exact q
 ·rw [f1,f2]
  exact enCmp_c _ _ _ _ _ _ _ _ _ (hR.sz _ (List.mem_map_of_mem (List.getElem_mem _))) (hR.sz _ (List.mem_map_of_mem (List.getElem_mem _))) (hW d os).er
theorem cmp_fnE:∀ args W,(callFunc 62 args).run Tryz.prog W = .ok (.enter 62 args) W:=fun _ _=>by kernel_rfl
set_option maxRecDepth 100000 in
set_option maxHeartbeats 4000000 in
theorem order2E_c {F:Nat → Prop} (l:List EnT) (hR:RisK (l.map (·.1))) (A:Option Addr) (n c i j:Nat) (X:Value) (w:World) (h:SrD l F A c w) (hn:l.length = n) (hn1:n ≤ 1000) (hij:i < j) (hj:j < n) :
  Calls Tryz.prog 235 #[.slice A n c,.int .i64 i,.int .i64 j,X,.func (.func 62) #[] #[]] w (fun e w'=>e = .returned (.tuple #[.int .i64 i,.int .i64 j]) ∧ Below w.heap.size w w'):=by
 have eg:=cmp_fnE
 obtain ⟨o,f,x,y,vx,vy,z,rfl,hz,s0,s1,s2,s3,hcm⟩:=h.two hR i j hij (by omega)
 have HCM:=Lib.hid hcm
 have hz2:¬ z < 0:=by omega
 have hi:i < n:=by omega
 clear h hcm hn
 go_enter Tryz.func235,Tryz.ntmps235
 go_upto_region 1 with (fail)
 refine wp_region_quiet_below (by kernel_rfl) (by kernel_rfl) ?_
 repeat (first | go_big_quiet_step ((go_at_call 62; exact Calls.regrown_of (HCM.out _ _))) | quiet_step ((go_at_call 62; exact Calls.regrown_of (HCM.out _ _))))
 refine wpQuiet_nil ?_
 intro wy hwy
 have hby:=below_of_regrown hwy
 clear hwy
 go_wp2
 go_ret2
 exact ⟨rfl,hby⟩
set_option maxRecDepth 100000 in
set_option maxHeartbeats 4000000 in
theorem medianE_c {F:Nat → Prop} (l:List EnT) (hR:RisK (l.map (·.1))) (A:Option Addr) (n c i j k:Nat) (X:Value) (w:World) (h:SrD l F A c w) (hn:l.length = n) (hn1:n ≤ 1000) (hij:i < j) (hjk:j < k) (hk:k < n) :
  Calls Tryz.prog 218 #[.slice A n c,.int .i64 i,.int .i64 j,.int .i64 k,X,.func (.func 62) #[] #[]] w (fun e w'=>e = .returned (.int .i64 j) ∧ Below w.heap.size w w'):=by
 have HO:=Lib.hid (fun (i j:Nat) (W:World) (hb:Below w.heap.size w W) (hij:i < j) (hj:j < n)=>order2E_c l hR A n c i j X W (h.below hb) hn hn1 hij hj)
 clear h hR hn
 go_enter Tryz.func218,Tryz.ntmps218
 go_wp2_with fail
 refine (HO.out i j w (Below.refl _ _) hij (by omega)).mono ?_
 rintro e w1 ⟨rfl,hb1⟩
 have HB1:=Lib.hid hb1
 clear hb1
 go_wp2_with fail
 refine (HO.out j k w1 HB1.out hjk hk).mono ?_
 rintro e w2 ⟨rfl,hb2⟩
 have HB2:=Lib.hid (HB1.out.trans (hb2.mono HB1.out.size))
 clear hb2 HB1
 go_wp2_with fail
 refine (HO.out i j w2 HB2.out hij (by omega)).mono ?_
 rintro e w3 ⟨rfl,hb3⟩
 have HB3:=Lib.hid (HB2.out.trans (hb3.mono HB2.out.size))
 clear hb3 HB2
 go_wp2
 go_ret
 exact ⟨rfl,HB3.out⟩
set_option maxRecDepth 100000 in
set_option maxHeartbeats 4000000 in
theorem medianAdjE_c {F:Nat → Prop} (l:List EnT) (hR:RisK (l.map (·.1))) (A:Option Addr) (n c i:Nat) (X:Value) (w:World) (h:SrD l F A c w) (hn:l.length = n) (hn1:n ≤ 1000) (hi:0 < i) (hk:i + 1 < n) :
  Calls Tryz.prog 217 #[.slice A n c,.int .i64 i,X,.func (.func 62) #[] #[]] w (fun e w'=>e = .returned (.int .i64 i) ∧ Below w.heap.size w w'):=by
 have HM:=medianE_c l hR A n c (i - 1) i (i + 1) X w h hn hn1 (by omega) (by omega) hk
 rw [show ((i - 1:Nat):Int) = (i:Int) - 1 by omega,show ((i + 1:Nat):Int) = (i:Int) + 1 by omega] at HM
 have HM:=Lib.hid HM
 clear h hR hn
 go_enter Tryz.func217,Tryz.ntmps217
 go_wp2_with fail
 refine HM.out.mono ?_
 rintro e w1 ⟨rfl,hb1⟩
 have HB1:=Lib.hid hb1
 clear hb1
 go_wp2
 go_ret
 exact ⟨rfl,HB1.out⟩
set_option maxRecDepth 100000 in
set_option maxHeartbeats 4000000 in
theorem insSortE_c {F:Nat → Prop} (l:List EnT) (hR:RisK (l.map (·.1))) (A:Option Addr) (n c:Nat) (w:World) (h:SrD l F A c w) (hn:l.length = n) (hn1:n ≤ 1000) :
  Calls Tryz.prog 180 #[.slice A n c,.int .i64 0,.int .i64 n,.func (.func 62) #[] #[]] w (fun e w'=>e = .returned (.tuple #[]) ∧ Below w.heap.size w w'):=by
 have eg:=cmp_fnE
 have HS:=Lib.hid (fun (W:World) (hb:Below w.heap.size w W)=>h.below hb)
 have HN:=Lib.hid hn
 clear h hn
 go_enter Tryz.func180,Tryz.ntmps180
 go_upto_region 1 with (fail)
 go_loopw [8] (fun s8 wr=>∃ i:Nat,1 ≤ i ∧ (i ≤ n ∨ i = 1) ∧ s8 = .int .i64 i ∧ Hid (Below w.heap.size w wr)) (fun s8 _=>n - (intOf s8).toNat)
 case atStart=>exact ⟨1,Nat.le_refl _,.inr rfl,rfl,Lib.hid (Below.refl _ _)⟩
 case round=>
  obtain ⟨i,hi1,hi2,rfl,HB⟩:=hrel
  by_cases hlt:i < n
  ·obtain ⟨o,f,x,y,vx,vy,z,eA,hz,s0,s1,s2,s3,hcm⟩:=(HS.out wr HB.out).two hR (i - 1) i (by omega) (by rw [HN.out]; exact hlt)
   subst eA
   have HCM:=Lib.hid hcm
   have hz2:¬ z < 0:=by omega
   have hw1:IntKind.i64.wrap ((i:Int) - 1) = (i:Int) - 1:=by rw [IntKind.wrap_i64]; omega
   have hw2:(0:Int) ≤ (i:Int) - 1:=by omega
   have hw3:((i:Int) - 1).toNat = i - 1:=by omega
   have hw4:(i:Int) - 1 < (n:Int):=by omega
   have hi3:(0:Int) < (i:Int):=by omega
   have hi4:0 < i:=by omega
   clear hcm hi2
   go_upto_region 3 with (fail)
   go_wp2
   refine wp_loop_rounds 1 ?_
   rw [rounds_succ]
   go_upto_region 4 with (fail)
   refine wp_region_quiet_below (by kernel_rfl) (by kernel_rfl) ?_
   repeat (first | go_big_quiet_step ((go_at_call 62; exact Calls.regrown_of (HCM.out _ _))) | quiet_step ((go_at_call 62; exact Calls.regrown_of (HCM.out _ _))))
   refine wpQuiet_nil ?_
   intro wy hwy
   have hby:=below_of_regrown hwy
   clear hwy
   have HB2:=Lib.hid (HB.out.trans (hby.mono HB.out.size))
   go_wp2
   go_roundw
   case rel=>exact ⟨i + 1,by omega,by omega,intNum,HB2⟩
   case measure=>simp [intOf]; omega
  ·have hlt2:¬ (i:Int) < (n:Int):=by omega
   go_wp2
   go_end0
   exact ⟨rfl,HB.out⟩
set_option maxRecDepth 100000 in
set_option maxHeartbeats 4000000 in
theorem partSortE_c {F:Nat → Prop} (l:List EnT) (hR:RisK (l.map (·.1))) (A:Option Addr) (n c:Nat) (w:World) (h:SrD l F A c w) (hn:l.length = n) (hn0:0 < n) (hn1:n ≤ 1000) :
  Calls Tryz.prog 185 #[.slice A n c,.int .i64 0,.int .i64 n,.func (.func 62) #[] #[]] w (fun e w'=>e = .returned (.bool true) ∧ Below w.heap.size w w'):=by
 have eg:=cmp_fnE
 have HS:=Lib.hid (fun (W:World) (hb:Below w.heap.size w W)=>h.below hb)
 have HN:=Lib.hid hn
 clear h hn
 go_enter Tryz.func185,Tryz.ntmps185
 go_wp2
 refine wp_loop_rounds 1 ?_
 rw [rounds_succ]
 go_upto_region 5 with (fail)
 go_loopw [9] (fun s9 wr=>∃ i:Nat,1 ≤ i ∧ i ≤ n ∧ s9 = .int .i64 i ∧ Hid (Below w.heap.size w wr)) (fun s9 _=>n - (intOf s9).toNat)
 case atStart=>exact ⟨1,Nat.le_refl _,hn0,rfl,Lib.hid (Below.refl _ _)⟩
 case round=>
  obtain ⟨i,hi1,hi2,rfl,HB⟩:=hrel
  by_cases hlt:i < n
  ·obtain ⟨o,f,x,y,vx,vy,z,eA,hz,s0,s1,s2,s3,hcm⟩:=(HS.out wr HB.out).two hR (i - 1) i (by omega) (by rw [HN.out]; exact hlt)
   subst eA
   have HCM:=Lib.hid hcm
   have hz2:¬ z < 0:=by omega
   have hw1:IntKind.i64.wrap ((i:Int) - 1) = (i:Int) - 1:=by rw [IntKind.wrap_i64]; omega
   have hw2:(0:Int) ≤ (i:Int) - 1:=by omega
   have hw3:((i:Int) - 1).toNat = i - 1:=by omega
   have hw4:(i:Int) - 1 < (n:Int):=by omega
   clear hcm hi2
   go_upto_region 5 with (fail)
   refine wp_region_quiet_below (by kernel_rfl) (by kernel_rfl) ?_
   repeat (first | go_big_quiet_step ((go_at_call 62; exact Calls.regrown_of (HCM.out _ _))) | quiet_step ((go_at_call 62; exact Calls.regrown_of (HCM.out _ _))))
   refine wpQuiet_nil ?_
   intro wy hwy
   have hby:=below_of_regrown hwy
   clear hwy
   have HB2:=Lib.hid (HB.out.trans (hby.mono HB.out.size))
   go_wp2
   go_roundw
   case rel=>exact ⟨i + 1,by omega,by omega,intNum,HB2⟩
   case measure=>simp [intOf]; omega
  ·have hin:i = n:=by omega
   subst hin
   go_upto_region 5 with (fail)
   refine wp_region_quiet_below (by kernel_rfl) (by kernel_rfl) ?_
   repeat (first | go_big_quiet_step ((fail)) | quiet_step ((fail)))
   refine wpQuiet_nil ?_
   intro wy hwy
   have hby:=below_of_regrown hwy
   clear hwy
   have HB2:=Lib.hid (HB.out.trans (hby.mono HB.out.size))
   go_wp2
   go_ret
   exact ⟨rfl,HB2.out⟩
set_option maxRecDepth 100000 in
set_option maxHeartbeats 4000000 in
theorem pivotE_c {F:Nat → Prop} (l:List EnT) (hR:RisK (l.map (·.1))) (A:Option Addr) (n c:Nat) (w:World) (h:SrD l F A c w) (hn:l.length = n) (hn0:12 < n) (hn1:n ≤ 1000) :
  Calls Tryz.prog 183 #[.slice A n c,.int .i64 0,.int .i64 n,.func (.func 62) #[] #[]] w (fun e w'=>∃ p:Int,e = .returned (.tuple #[.int .i64 p,.int .i64 1]) ∧ Below w.heap.size w w'):=by
 obtain ⟨q,hq⟩:∃ q,n / 4 = q:=⟨_,rfl⟩
 have hq1:3 ≤ q:=by omega
 have hq2:q * 4 ≤ n:=by omega
 have hqi:(n:Int).tdiv 4 = (q:Int):=by rw [← hq]; exact (Int.ofNat_tdiv n 4).symm
 have HB1:=Lib.hid ((Below.refl w.heap.size w).alloc (Nat.le_refl _) (.cells #[.int .i64 0] 3))
 have hc1:(w.alloc (.cells #[.int .i64 0] 3)).cell? ⟨w.heap.size,0,none⟩ = some (.int .i64 0):=(str_cells (heap_alloc_new w _)).1 0
 have hs1:(w.alloc (.cells #[.int .i64 0] 3)).heap.size = w.heap.size + 1:=by simp
 have HAJ:=Lib.hid (fun (i:Nat) (X:Value) (W:World) (hb:Below w.heap.size w W) (hi:0 < i) (hk:i + 1 < n)=>medianAdjE_c l hR A n c i X W (h.below hb) hn hn1 hi hk)
 have HME:=Lib.hid (fun (i j k:Nat) (X:Value) (W:World) (hb:Below w.heap.size w W) (hij:i < j) (hjk:j < k) (hk:k < n)=>medianE_c l hR A n c i j k X W (h.below hb) hn hn1 hij hjk hk)
 have e2:((q * 2:Nat):Int) = (q:Int) * 2:=by omega
 have e3:((q * 3:Nat):Int) = (q:Int) * 3:=by omega
 have hn8:(8:Int) ≤ (n:Int):=by omega
 clear h hR hn hq
 go_enter Tryz.func183,Tryz.ntmps183
 go_upto_region 3 with (fail)
 obtain ⟨W1,hW1⟩:∃ W1,w.alloc (.cells #[.int .i64 0] 3) = W1:=⟨_,rfl⟩
 rw [hW1] at HB1 hc1 hs1 ⊢
 clear hW1
 have HXC:=Lib.hid (fun (W:World) (hw:Below W1.heap.size W1 W)=>show W.cell? ⟨w.heap.size,0,none⟩ = some (.int .i64 0) ∧ Below w.heap.size w W from ⟨(hw.cell (p:=⟨w.heap.size,0,none⟩) (by dsimp only; omega)).trans hc1,HB1.out.trans (hw.mono HB1.out.size)⟩)
 clear hc1
 have hA1:=fun X W (hb:Below w.heap.size w W) (h50:50 ≤ n)=>HAJ.out q X W hb (by omega) (by omega)
 have hA2:=fun X W (hb:Below w.heap.size w W) (h50:50 ≤ n)=>HAJ.out (q * 2) X W hb (by omega) (by omega)
 have hA3:=fun X W (hb:Below w.heap.size w W) (h50:50 ≤ n)=>HAJ.out (q * 3) X W hb (by omega) (by omega)
 have hM:=fun X W (hb:Below w.heap.size w W)=>HME.out q (q * 2) (q * 3) X W hb (by omega) (by omega) (by omega)
 simp only [e2] at hA2
 simp only [e3] at hA3
 simp only [e2,e3] at hM
 have HA1:=Lib.hid hA1
 have HA2:=Lib.hid hA2
 have HA3:=Lib.hid hA3
 have HM:=Lib.hid hM
 clear hA1 hA2 hA3 hM HAJ HME e2 e3
 have B1:=Lib.hid (Below.refl W1.heap.size W1)
 by_cases h50:50 ≤ n
 ·have h50i:(50:Int) ≤ (n:Int):=by omega
  go_wp2_with fail
  refine (HA1.out _ W1 (HXC.out _ B1.out).2 h50).mono ?_
  rintro e w2 ⟨rfl,hb2⟩
  have B2:=Lib.hid (B1.out.trans (hb2.mono B1.out.size))
  clear hb2 B1
  go_wp2_with fail
  refine (HA2.out _ w2 (HXC.out _ B2.out).2 h50).mono ?_
  rintro e w3 ⟨rfl,hb3⟩
  have B3:=Lib.hid (B2.out.trans (hb3.mono B2.out.size))
  clear hb3 B2
  go_wp2_with fail
  refine (HA3.out _ w3 (HXC.out _ B3.out).2 h50).mono ?_
  rintro e w4 ⟨rfl,hb4⟩
  have B4:=Lib.hid (B3.out.trans (hb4.mono B3.out.size))
  clear hb4 B3
  go_wp2_with fail
  refine (HM.out _ w4 (HXC.out _ B4.out).2).mono ?_
  rintro e w5 ⟨rfl,hb5⟩
  have B5:=Lib.hid (B4.out.trans (hb5.mono B4.out.size))
  have c5:=(HXC.out _ B5.out).1
  clear hb5 B4
  go_wp2
  go_ret2
  exact ⟨_,rfl,(HXC.out _ B5.out).2⟩
 ·have h50i:¬ (50:Int) ≤ (n:Int):=by omega
  go_wp2_with fail
  refine (HM.out _ W1 (HXC.out _ B1.out).2).mono ?_
  rintro e w5 ⟨rfl,hb5⟩
  have B5:=Lib.hid (B1.out.trans (hb5.mono B1.out.size))
  have c5:=(HXC.out _ B5.out).1
  clear hb5 B1
  go_wp2
  go_ret2
  exact ⟨_,rfl,(HXC.out _ B5.out).2⟩
set_option maxRecDepth 100000 in
set_option maxHeartbeats 4000000 in
theorem pdqSortE_c {F:Nat → Prop} (l:List EnT) (hR:RisK (l.map (·.1))) (A:Option Addr) (n c:Nat) (lim:Int) (w:World) (h:SrD l F A c w) (hn:l.length = n) (hn1:n ≤ 1000) (hlim:12 < n → ¬ lim = 0) :
  Calls Tryz.prog 122 #[.slice A n c,.int .i64 0,.int .i64 n,.int .i64 lim,.func (.func 62) #[] #[]] w (fun e w'=>e = .returned (.tuple #[]) ∧ Below w.heap.size w w'):=by
 by_cases h12:12 < n
 ·have HP:=Lib.hid (pivotE_c l hR A n c w h hn h12 hn1)
  have HT:=Lib.hid (fun (W:World) (hb:Below w.heap.size w W)=>partSortE_c l hR A n c W (h.below hb) hn (by omega) hn1)
  have hl0:=hlim h12
  have h12i:¬ (n:Int) ≤ 12:=by omega
  clear h hR hn hlim
  go_enter Tryz.func122,Tryz.ntmps122
  go_wp2
  refine wp_loop_rounds 1 ?_
  rw [rounds_succ]
  go_wp2_with fail
  refine HP.out.mono ?_
  rintro e w1 ⟨p,rfl,hb1⟩
  have B1:=Lib.hid hb1
  clear hb1
  go_wp2_with fail
  refine (HT.out w1 B1.out).mono ?_
  rintro e w2 ⟨rfl,hb2⟩
  have B2:=Lib.hid (B1.out.trans (hb2.mono B1.out.size))
  clear hb2
  go_wp2
  (try simp only [Exit.inBlock,Exit.then]); refine bodyPost_ret (results_none rfl _ _ _) rfl ?_
  exact ⟨rfl,B2.out⟩
 ·have HI:=Lib.hid (insSortE_c l hR A n c w h hn hn1)
  have h12i:(n:Int) ≤ 12:=by omega
  clear h hR hn hlim
  go_enter Tryz.func122,Tryz.ntmps122
  go_wp2
  refine wp_loop_rounds 1 ?_
  rw [rounds_succ]
  go_wp2_with fail
  refine HI.out.mono ?_
  rintro e w1 ⟨rfl,hb1⟩
  have B1:=Lib.hid hb1
  clear hb1
  go_wp2
  (try simp only [Exit.inBlock,Exit.then]); refine bodyPost_ret (results_none rfl _ _ _) rfl ?_
  exact ⟨rfl,B1.out⟩
set_option maxRecDepth 100000 in
set_option maxHeartbeats 4000000 in
theorem sortsRE (l:List EnT) (hR:RisK (l.map (·.1))) (hn1:l.length ≤ 1000) {F:Nat → Prop} (A:Option Addr) (c:Nat) (w:World) (h:SrD l F A c w) :
  Calls Tryz.prog 61 #[.slice A l.length c,.func (.func 62) #[] #[]] w (fun e w'=>e = .returned (.tuple #[]) ∧ Below w.heap.size w w'):=by
 obtain ⟨n,hn⟩:∃ n,l.length = n:=⟨_,rfl⟩
 rw [hn] at hn1 ⊢
 have HP:=Lib.hid (fun lim (hlim:12 < n → ¬ lim = 0)=>pdqSortE_c l hR A n c lim w h hn hn1 hlim)
 have HL:=Lib.hid (fun w=>show Calls Tryz.prog 110 #[.int .u64 (n:Int)] w (fun e w'=>e = .returned (.int .i64 (Lib.bitLen (n:Int).toNat:Nat)) ∧ w' = w) from Tryz.bits_Len (n:Int) w (by omega) (by omega))
 have wr:IntKind.u64.wrap (n:Int) = n:=by simp [IntKind.wrap,IntKind.bits,IntKind.signed]; omega
 have hbl:12 < n → ¬ ((Lib.bitLen (n:Int).toNat:Nat):Int) = 0:=fun h12=>by
  have:=Lib.bitLen_half n (by omega) (by omega)
  rw [show (n:Int).toNat = n from rfl]
  omega
 have HBL:=Lib.hid hbl
 clear hn h hR hbl
 go_enter Tryz.func61,Tryz.ntmps61
 go_wp2_with fail
 refine (HL.out _).mono ?_
 rintro e w1 ⟨rfl,rfl⟩
 go_wp2_with fail
 refine (HP.out _ HBL.out).mono ?_
 rintro e w2 ⟨rfl,hb2⟩
 have B2:=Lib.hid hb2
 clear hb2
 go_wp2
 go_end0
 exact ⟨rfl,B2.out⟩
end
section
open Go.RowKit Go.Sort
structure ES (w:World) (F:Nat → Prop) (L:List EnT) (v:Value):Prop where
 sli:Sli enR w F L v
 blk:∀ y ∈ L,Sli rbR w F y.2.1 y.2.2
 ln:∀ y ∈ L,∀ x ∈ y.2.1,Sli strR w F x.1.lines x.2.1
 kd:∀ y ∈ L,∀ x ∈ y.2.1,Sli boR w F x.1.kinds x.2.2
theorem ES.keep {w w':World} {F G:Nat → Prop} {L:List EnT} {v:Value} (h:ES w F L v) (hk:∀ q,F q → w'.heap[q]? = w.heap[q]?) (hm:∀ q,F q → G q):ES w' G L v:=
 ⟨(h.sli.keep hk).more hm,fun y hy=>((h.blk y hy).keep hk).more hm,fun y hy x hx=>((h.ln y hy x hx).keep hk).more hm,fun y hy x hx=>((h.kd y hy x hx).keep hk).more hm⟩
theorem ES.below {w w':World} {F:Nat → Prop} {L:List EnT} {v:Value} (h:ES w F L v) (hb:Below w.heap.size w w') (hF:∀ q,F q → q < w.heap.size):ES w' F L v:=h.keep (fun q hq=>hb.block q (hF q hq)) (fun _ hq=>hq)
abbrev ENF (w:World) (v:Value) (wx:World) (q:Nat):Prop:=w.heap.size ≤ q ∧ q < wx.heap.size ∧ v.ownBlock ≠ some q
structure EN (w:World) (L:List EnT) (v:Value) (wx:World):Prop where
 bel:Below w.heap.size w wx
 own:Own enR wx w.heap.size w.heap.size 111 L v
 blk:∀ y ∈ L,Sli rbR wx (ENF w v wx) y.2.1 y.2.2
 ln:∀ y ∈ L,∀ x ∈ y.2.1,Sli strR wx (ENF w v wx) x.1.lines x.2.1
 kd:∀ y ∈ L,∀ x ∈ y.2.1,Sli boR wx (ENF w v wx) x.1.kinds x.2.2
section
variable {w wx wy:World} {L:List EnT} {v:Value}
theorem EN.start (w:World):EN w [] (.slice none 0 0) w:=⟨Below.refl _ _,Own.nil_,(fun y hy=>by cases hy),(fun y hy=>by cases hy),(fun y hy=>by cases hy)⟩
theorem EN.below (h:EN w L v wx) (hb:Below wx.heap.size wx wy):EN w L v wy:=by
 have key:∀ {α:Type} {R:Rep α} (k:List α) z,Sli R wx (ENF w v wx) k z → Sli R wy (ENF w v wy) k z:=fun k z hs=>
  (hs.below hb (fun q hq=>hq.2.1)).more fun q hq=>⟨hq.1,Nat.lt_of_lt_of_le hq.2.1 hb.size,hq.2.2⟩
 exact ⟨h.bel.trans (hb.mono h.bel.size),h.own.below hb,fun y hy=>key _ _ (h.blk y hy),fun y hy x hx=>key _ _ (h.ln y hy x hx),fun y hy x hx=>key _ _ (h.kd y hy x hx)⟩
theorem EN.drew (h:EN w L v wx):EN w L v wx.drew:=h.below (Below.refl _ wx).drew
theorem EN.alloc (h:EN w L v wx) (o:Obj):EN w L v (wx.alloc o):=h.below ((Below.refl _ wx).alloc (Nat.le_refl _) o)
theorem EN.push {y:EnT} {v':Value} {g:Nat} (h:EN w L v wx) (hown:Own enR wy w.heap.size w.heap.size 111 (L ++ [y]) v') (hg:wx.grownBy wy v.ownBlock) (hv:v'.ownBlock = some g) (hat:v.ownBlock = some g ∨ g = wx.heap.size)
  (h1:Sli rbR wx (ENF w v wx) y.2.1 y.2.2) (h2:∀ x ∈ y.2.1,Sli strR wx (ENF w v wx) x.1.lines x.2.1) (h3:∀ x ∈ y.2.1,Sli boR wx (ENF w v wx) x.1.kinds x.2.2):EN w (L ++ [y]) v' wy:=by
 have hne:∀ q,q < wx.heap.size → v.ownBlock ≠ some q → v'.ownBlock ≠ some q:=fun q hq hn e=>by
  rw [hv] at e
  injection e with e
  rcases hat with hat | hat
  ·exact hn (by rw [hat,e])
  ·omega
 have key:∀ {α:Type} {R:Rep α} (k:List α) z,Sli R wx (ENF w v wx) k z → Sli R wy (ENF w v' wy) k z:=fun k z hs=>
  (hs.keep fun q hq=>hg.block q hq.2.1 fun e=>hq.2.2 e.symm).more fun q hq=>⟨hq.1,Nat.lt_of_lt_of_le hq.2.1 hg.size,hne q hq.2.1 hq.2.2⟩
 refine ⟨h.bel.grown hg h.bel.size (fun q hq=>(h.own.block q hq).1),hown,fun z hz=>?_,fun z hz x hx=>?_,fun z hz x hx=>?_⟩
 ·rcases List.mem_append.1 hz with hz | hz
  ·exact key _ _ (h.blk z hz)
  ·rw [List.mem_singleton] at hz; subst hz; exact key _ _ h1
 ·rcases List.mem_append.1 hz with hz | hz
  ·exact key _ _ (h.ln z hz x hx)
  ·rw [List.mem_singleton] at hz; subst hz; exact key _ _ (h2 x hx)
 ·rcases List.mem_append.1 hz with hz | hz
  ·exact key _ _ (h.kd z hz x hx)
  ·rw [List.mem_singleton] at hz; subst hz; exact key _ _ (h3 x hx)
theorem EN.fresh {α:Type} {R:Rep α} {k:List α} {z:Value} (h:EN w L v wx) (hz:wx.heap.size ≤ wy.heap.size) (hs:Sli R wy (fun q=>wx.heap.size ≤ q ∧ q < wy.heap.size) k z):Sli R wy (ENF w v wy) k z:=
 hs.more fun q hq=>⟨Nat.le_trans h.bel.size hq.1,hq.2,fun e=>by have:=(h.own.block q e).2; omega⟩
end
def EnsP (xs:List Scene) (w:World) (e:Ending) (w':World):Prop:=∃ (L:List EnT) (v:Value),e = .returned v ∧ L.map (·.1) = xs.map (·.no) ∧ L.map (fun y=>y.2.1.map (·.1)) = xs.map blocksS ∧ Below w.heap.size w w' ∧ ES w' (fun q=>w.heap.size ≤ q ∧ q < w'.heap.size) L v
set_option maxRecDepth 100000 in
set_option maxHeartbeats 4000000 in
theorem entriesOf_c {F:Nat → Prop} (t:ByteArray) (ls:List (Scene × Value)) (v:Value) (w:World) (h:ScL w F t ls v) (hok:∀ y ∈ ls,LnOk y.1) (hln:ls.length ≤ 91) (hsp:SpLaid w) (he:ErrsLaid w) (hR:RisK (ls.map (·.1.no))) :
  Calls Tryz.prog 25 #[.agg #[.string t,v],.slice none 0 0] w (EnsP (ls.map (·.1)) w):=by
 obtain ⟨i1,hi1,hy0,hy1,hy2⟩:=info_parts (show (Tryz.prog.info? 111).map (fun i=>(i.zero,i.size,i.bytes)) = some (some (.agg #[.string ⟨#[]⟩,.slice none 0 0]),2,40) by kernel_rfl)
 obtain ⟨A,c,rfl,hlc,hcm⟩:=h.sli.form
 obtain ⟨L,hL⟩:∃ L,ls.length = L:=⟨_,rfl⟩
 have HL:=Lib.hid hL
 have HSC:=Lib.hid (fun (W:World) (hb:Below w.heap.size w W)=>h.below hb)
 have HOK:=Lib.hid hok
 have HSP:=Lib.hid (fun (W:World) (hb:Below w.heap.size w W)=>sp_below hsp hb (Nat.le_refl _))
 have HER:=Lib.hid (fun (W:World) (hb:Below w.heap.size w W)=>he.below hb (Nat.le_refl _))
 have HRK:=Lib.hid hR
 have HB:=Lib.hid ((Below.refl w.heap.size w).alloc (Nat.le_refl _) (.cells #[.string t,.slice A L c] 28))
 have HC0:=(str_cells (heap_alloc_new w (.cells #[.string t,.slice A L c] 28))).1
 have hzw:w.heap.size < (w.alloc (.cells #[.string t,.slice A L c] 28)).heap.size:=by simp
 rw [hL] at hln hlc HSC ⊢
 clear h hok hsp hL he hR
 go_enter Tryz.func25,Tryz.ntmps25
 go_upto_region 1 with (fail)
 generalize w.alloc (.cells #[.string t,.slice A L c] 28) = W0 at *
 have d1:W0.cell? ⟨w.heap.size,1,none⟩ = some (.slice A L c):=HC0 1
 clear HC0
 go_wp2
 go_loopw [5,13] (fun v i wr=>∃ (k:Nat) (M:List EnT),k ≤ L ∧ i = .int .i64 k ∧ M.length = k ∧ Hid (M.map (·.1) = (ls.take k).map (·.1.no)) ∧ Hid (M.map (fun y=>y.2.1.map (·.1)) = ((ls.take k).map (·.1)).map blocksS) ∧ Hid (EN W0 M v wr)) (fun _ i _=>L - (intOf i).toNat)
 case atStart=>exact ⟨0,[],Nat.zero_le _,rfl,rfl,rfl,rfl,EN.start W0⟩
 case round=>
  clear d1
  obtain ⟨k,M,hk,rfl,hml,HNK,HK,HG⟩:=hrel
  obtain ⟨A3,q3,e3,_,_⟩:=(HG.out.own.sli (F:=fun _=>True) (fun _ _ _=>trivial) (fun _ _=>trivial)).form
  rw [hml] at e3
  subst e3
  by_cases hlt:k < L
  ·have hkl:k < ls.length:=by rw [HL.out]; exact hlt
   have HBr:=Lib.hid (HB.out.trans (HG.out.bel.mono (by omega)))
   have hHr:=HSC.out _ HBr.out
   obtain ⟨b,off,rfl,hfb,c0,c1,c2,c3,c4⟩:=scAt hHr.sli k hkl
   have hsp:=(HSC.out w (Below.refl _ _)).par _ (List.getElem_mem hkl)
   obtain ⟨A4,cc4,h4,_,_⟩:=hsp.form
   rw [h4] at c4
   rw [h4] at hsp
   have HPA:=Lib.hid (fun (W:World) (hb:Below w.heap.size w W)=>show Sli paraR W F (ls[k]'hkl).1.paras (.slice A4 (ls[k]'hkl).1.paras.length cc4) ∧ (∀ q,F q → q < W.heap.size) from ⟨hsp.below hb (HSC.out w (Below.refl _ _)).lt,(HSC.out W hb).lt⟩)
   have HOx:=Lib.hid (HOK.out _ (List.getElem_mem hkl))
   have HF2:=Lib.hid (show ((ls.take (k + 1)).map (·.1)).map blocksS = ((ls.take k).map (·.1)).map blocksS ++ [blocksS (ls[k]'hkl).1] by
    rw [List.take_succ_eq_append_getElem hkl,List.map_append,List.map_append,List.map_cons,List.map_cons,List.map_nil,List.map_nil])
   have HN2:=Lib.hid (show (ls.take (k + 1)).map (·.1.no) = (ls.take k).map (·.1.no) ++ [(ls[k]'hkl).1.no] by
    rw [List.take_succ_eq_append_getElem hkl,List.map_append,List.map_cons,List.map_nil])
   generalize (ls[k]'hkl).1 = x at *
   have hG6:=HG.out.alloc (.cells #[.string x.no,.int .i64 x.place,.string x.set,.int .i64 x.time,.slice A4 x.paras.length cc4] 46)
   have hx6:=heap_alloc_new wr (.cells #[.string x.no,.int .i64 x.place,.string x.set,.int .i64 x.time,.slice A4 x.paras.length cc4] 46)
   have hzr:=HG.out.bel.size
   have HOB:=Lib.hid (fun g (hg:(Value.slice A3 k q3).ownBlock = some g)=>(HG.out.own.block g hg).2)
   have hxl0:wr.heap.size < (wr.alloc (.cells #[.string x.no,.int .i64 x.place,.string x.set,.int .i64 x.time,.slice A4 x.paras.length cc4] 46)).heap.size:=by simp
   clear hkl h4 hsp hHr HG
   go_upto_region 5 with (fail)
   generalize hW:wr.alloc (.cells #[.string x.no,.int .i64 x.place,.string x.set,.int .i64 x.time,.slice A4 x.paras.length cc4] 46) = w6 at *
   generalize wr.heap.size = X at *
   have HB8:=Lib.hid (HB.out.trans (hG6.bel.mono (by omega)))
   obtain ⟨e0,e1,e2,e3,e4⟩:=sc_cells (str_cells hx6)
   have HXC:=Lib.hid (fun (W:World) (hb:W.heap[X]? = w6.heap[X]?)=>show W.cell? ⟨X,0,none⟩ = some (.string x.no) ∧ W.cell? ⟨X,1,none⟩ = some (.int .i64 x.place) ∧ W.cell? ⟨X,2,none⟩ = some (.string x.set) ∧ W.cell? ⟨X,3,none⟩ = some (.int .i64 x.time) ∧ W.cell? ⟨X,4,none⟩ = some (.slice A4 x.paras.length cc4) from
    ⟨(World.cell?_of_block (a:=⟨X,0,none⟩) hb).trans e0,(World.cell?_of_block (a:=⟨X,1,none⟩) hb).trans e1,(World.cell?_of_block (a:=⟨X,2,none⟩) hb).trans e2,(World.cell?_of_block (a:=⟨X,3,none⟩) hb).trans e3,(World.cell?_of_block (a:=⟨X,4,none⟩) hb).trans e4⟩)
   have HBL:=Lib.hid (blocksOf_c x (.slice A4 x.paras.length cc4) w6.drew (HPA.out w6.drew HB8.out.drew).1 (HPA.out w6.drew HB8.out.drew).2 HOx.out (HSP.out w6.drew HB8.out.drew))
   have G8:=Lib.hid hG6.drew
   clear hW hG6 hx6 c0 c1 c2 c3 c4
   generalize x.paras.length = pl at *
   obtain ⟨ι,ff,hne,hff,hfS⟩:=family (fun W=>W.cell? ⟨X,0,none⟩ = some (.string x.no) ∧ W.cell? ⟨X,1,none⟩ = some (.int .i64 x.place) ∧ W.cell? ⟨X,2,none⟩ = some (.string x.set) ∧ W.cell? ⟨X,3,none⟩ = some (.int .i64 x.time) ∧ W.cell? ⟨X,4,none⟩ = some (.slice A4 pl cc4)) w6 ⟨e0,e1,e2,e3,e4⟩
   have hneW:Nonempty World:=⟨w6⟩
   have s0:=fun p=>(hff p).1
   have s1:=fun p=>(hff p).2.1
   have s2:=fun p=>(hff p).2.2.1
   have s3:=fun p=>(hff p).2.2.2.1
   have s4:=fun p=>(hff p).2.2.2.2
   have HFS:=Lib.hid hfS
   clear hff hfS e0 e1 e2 e3 e4
   refine wp_region_segs2 [4,6,7] [8] [] [([0,1],[2,3],4),([5],[],6),([],[],7)] (by kernel_rfl) (by kernel_rfl) (fun _ _ _ dd _ h=>by cases dd <;> exact h) (fun W=>∃ p:ι,W = ff p) (HFS.out _ (HXC.out w6.drew rfl)) ?_
   refine wpSegs2_step (by simp only [pick,List.getElem?_cons_succ,List.getElem?_cons_zero]; rfl) (by simp only [pick,List.getElem?_cons_succ,List.getElem?_cons_zero]; rfl) rfl (fun K0 hK0 L0 hL0=>?_)
   repeat (first | go_big_quiet_step (fail) | quiet_step (fail))
   refine wpQuiet_nil (hL0 _ ?_)
   repeat (first | go_big_quiet_step (fail) | quiet_step (fail))
   refine wpQuiet_nil ?_
   go_simp
   refine HBL.out.mono ?_
   rintro e w9 ⟨l2,v2,rfl,hl2,hN2⟩
   obtain ⟨t1,t2,t3⟩:=hN2.parts
   obtain ⟨A2,c2,rfl,_,_⟩:=t1.form
   have hX9:w9.heap[X]? = w6.heap[X]?:=hN2.bo.bel.block X hxl0
   refine hK0 (fun W=>∃ p:ι,W = ff p) _ _ (fun _ h=>h) (HFS.out _ (HXC.out w9 hX9)) ?_
   have G9:=Lib.hid ((G8.out.below hN2.bo.bel).alloc (.cells #[.string x.no,.slice A2 l2.length c2] 111))
   have hzw9:=(G8.out.below hN2.bo.bel).bel.size
   have hal:=(Below.refl w9.heap.size w9).alloc (Nat.le_refl _) (.cells #[.string x.no,.slice A2 l2.length c2] 111)
   have hz98:w6.heap.size ≤ w9.heap.size:=hN2.bo.bel.size
   have key:∀ {α:Type} {R:Rep α} (kk:List α) z,Sli R w9 (fun q=>w6.drew.heap.size ≤ q ∧ q < w9.heap.size) kk z → Sli R (w9.alloc (.cells #[.string x.no,.slice A2 l2.length c2] 111)) (ENF W0 (.slice A3 k q3) (w9.alloc (.cells #[.string x.no,.slice A2 l2.length c2] 111))) kk z:=fun kk z hs=>
    ((G8.out.fresh hz98 hs).below hal (fun q hq=>hq.2.1)).more fun q hq=>⟨hq.1,by have:=hq.2.1; have:=hal.size; omega,hq.2.2⟩
   have HP2:=Lib.hid (And.intro (key _ _ t1) (And.intro (fun y hy=>key _ _ (t2 y hy)) (fun y hy=>key _ _ (t3 y hy))))
   have HL2:=Lib.hid (show (M ++ [((x.no,(l2,Value.slice A2 l2.length c2)):EnT)]).map (fun y=>y.2.1.map (·.1)) = ((ls.take (k + 1)).map (·.1)).map blocksS by rw [List.map_append,HK.out,HF2.out,List.map_cons,List.map_nil,hl2])
   have HL3:=Lib.hid (show (M ++ [((x.no,(l2,Value.slice A2 l2.length c2)):EnT)]).map (·.1) = (ls.take (k + 1)).map (·.1.no) by rw [List.map_append,HNK.out,HN2.out,List.map_cons,List.map_nil])
   have HNEW:=Lib.hid (heap_alloc_new w9 (.cells #[.string x.no,.slice A2 l2.length c2] 111))
   have hXB:(w9.alloc (.cells #[.string x.no,.slice A2 l2.length c2] 111)).heap[X]? = w6.heap[X]?:=(Below.heap_alloc w9 _ X (by omega)).trans hX9
   have hz10:W0.heap.size ≤ (w9.alloc (.cells #[.string x.no,.slice A2 l2.length c2] 111)).heap.size:=by simp; omega
   clear hN2 t1 t2 t3 hl2 HBL G8 key hal hX9
   refine wpSegs2_step (by simp only [pick,List.getElem?_cons_succ,List.getElem?_cons_zero]; rfl) (by simp only [pick,List.getElem?_cons_succ,List.getElem?_cons_zero]; rfl) rfl (fun K1 hK1 L1 hL1=>?_)
   repeat (first | go_big_quiet_step (fail) | quiet_step (fail))
   refine wpQuiet_nil (hL1 _ ?_)
   repeat (first | go_big_quiet_step (fail) | quiet_step (fail))
   refine wpQuiet_nil ?_
   go_simp
   refine hK1 (fun W=>∃ p:ι,W = ff p) _ _ (fun _ h=>h) (HFS.out _ (HXC.out _ hXB)) ?_
   refine wpSegs2_step (by simp only [pick,List.getElem?_cons_succ,List.getElem?_cons_zero]; rfl) (by simp only [pick,List.getElem?_cons_succ,List.getElem?_cons_zero]; rfl) rfl (fun K2 hK2 L2 hL2=>?_)
   repeat (first | go_big_quiet_step (fail) | quiet_step (fail))
   refine wpQuiet_nil (hL2 _ ?_)
   repeat (first | go_big_quiet_step (fail) | quiet_step (fail))
   refine wpQuiet_nil ?_
   refine oper_push (R:=enR) rfl _ _ _ rfl W0.heap.size W0.heap.size 111 i1 _ 40 Tryz.underlying62 hi1 hy0 hy1 hy2 rfl (by decide) _ (.slice A3 k q3) M rfl G9.out.own ((x.no,(l2,Value.slice A2 l2.length c2)):EnT) _ rfl (by intro u hu; simp [enC] at hu; rcases hu with rfl | rfl <;> rfl) w9.heap.size _ _ HNEW.out rfl (by unfold maxLen; omega) (by omega) hz10 ?_
   intro g2 capA wA hownA hgA hatA hltA
   have GA:=Lib.hid (G9.out.push (y:=(x.no,(l2,Value.slice A2 l2.length c2))) hownA hgA rfl hatA HP2.out.1 HP2.out.2.1 HP2.out.2.2)
   refine hK2 (fun W=>∃ p:ι,W = ff p) _ _ (fun _ h=>h) (HFS.out _ (HXC.out wA ((hgA.block X (by simp; omega) (fun e=>by have:=HOB.out X e.symm; omega)).trans hXB))) ?_
   clear hownA hgA hatA hltA G9 HP2 HNEW hXB
   refine wpSegs2_fin (by simp only [pick,List.getElem?_cons_succ,List.getElem?_cons_zero]; rfl) (by simp only [pick,List.getElem?_cons_succ,List.getElem?_cons_zero]; rfl) (fun L3 hL3=>?_)
   repeat (first | go_big_quiet_step (fail) | quiet_step (fail))
   refine wpQuiet_nil (hL3 _ ?_)
   repeat (first | go_big_quiet_step (fail) | quiet_step (fail))
   refine wpQuiet_nil ?_
   rw [hml] at GA
   try go_wp2
   go_roundw
   case rel=>exact ⟨k + 1,M ++ [(x.no,(l2,Value.slice A2 l2.length c2))],by omega,intNum,by rw [List.length_append,List.length_singleton,hml],HL3,HL2,GA⟩
   case measure=>simp [intOf]; omega
  ·have hkL:k = L:=by omega
   subst hkL
   have hall:((ls.take k).map (·.1)).map blocksS = (ls.map (·.1)).map blocksS:=by rw [List.take_of_length_le (by rw [HL.out]; omega)]
   have halln:(ls.take k).map (·.1.no) = (ls.map (·.1)).map (·.no):=by rw [List.take_of_length_le (by rw [HL.out]; omega),List.map_map]; rfl
   have HES:=Lib.hid (show ES wr (fun q=>w.heap.size ≤ q ∧ q < wr.heap.size) M (.slice A3 k q3) from
    ⟨Own.sliF (enc:=enC) (hn:=fun _=>rfl) HG.out.own (fun g hg=>by have:=HG.out.own.block g hg; exact ⟨by omega,this.2⟩),fun y hy=>(HG.out.blk y hy).more fun q hq=>⟨by have:=hq.1; omega,hq.2.1⟩,fun y hy x hx=>(HG.out.ln y hy x hx).more fun q hq=>⟨by have:=hq.1; omega,hq.2.1⟩,fun y hy x hx=>(HG.out.kd y hy x hx).more fun q hq=>⟨by have:=hq.1; omega,hq.2.1⟩⟩)
   have HBW:=Lib.hid (HB.out.trans (HG.out.bel.mono (by omega)))
   have hnm:M.map (·.1) = ls.map (·.1.no):=by rw [HNK.out,List.take_of_length_le (by rw [HL.out]; omega)]
   have HSR:=Lib.hid (sortsRE (F:=fun q=>w.heap.size ≤ q ∧ q < wr.heap.size) M (by rw [hnm]; exact HRK.out) (by omega) A3 q3 wr ⟨by rw [hml]; exact HES.out.sli,fun q hq=>hq.2,HER.out wr HBW.out,fun y hy=>by
    obtain ⟨B,c',e,_,_⟩:=(HG.out.blk y hy).form
    exact ⟨B,c',e⟩⟩)
   rw [hml] at HSR
   have HKN:=Lib.hid (And.intro (HNK.out.trans halln) (HK.out.trans hall))
   clear HG hall halln hnm
   go_wp2
   refine wp_loop_rounds 1 ?_
   rw [rounds_succ]
   go_wp2_with fail
   refine HSR.out.mono ?_
   rintro e w3 ⟨rfl,hb3⟩
   have HR:=Lib.hid (show EnsP (ls.map (·.1)) w (.returned (.slice A3 k q3)) w3 from ⟨M,_,rfl,HKN.out.1,HKN.out.2,HBW.out.trans (hb3.mono HBW.out.size),HES.out.keep (fun q hq=>hb3.block q hq.2) (fun q hq=>⟨hq.1,Nat.lt_of_lt_of_le hq.2 hb3.size⟩)⟩)
   clear hb3 HSR HES
   go_wp2
   go_ret
   exact HR.out
end
end Go.Proofs.YtaoobkgepcikiaaGreatDoor
