/- Texts packed: LkG, SheA, SlfW, SadW, SrtW, SrtX, SrtN, SrtO, SrtP, RisW. -/
import Derived.Test.YtaoobkgepcikiaaGreatDoorSc36
import Derived.Test.YtaoobkgepcikiaaGreatDoorSc29
import Derived.Test.YtaoobkgepcikiaaGreatDoorSc34
import Derived.Test.YtaoobkgepcikiaaGreatDoorSc18
import Derived.Test.YtaoobkgepcikiaaGreatDoorSc12
import Derived.Test.YtaoobkgepcikiaaGreatDoorSc17
namespace Go.Proofs.YtaoobkgepcikiaaGreatDoor
set_option linter.unusedVariables false
section
open Go.RowKit Go.Sort
def dX:Scene:=⟨⟨#[]⟩,1,⟨#[72,65,76,76]⟩,1,[]⟩
def dY:Scene:=⟨⟨#[49]⟩,1,⟨#[72,65,76,76]⟩,1,[]⟩
theorem dX_nbE:nbE [dX] = 0:=by rfl
theorem dX_nbS:nbS [dX] = [dY]:=by kernel_rfl
theorem dX_chk:chkE ⟨⟨#[84]⟩,[dX]⟩ = 0:=by rfl
theorem dY_pg:(lkPg [dY]).length = 1:=by kernel_rfl
theorem dY_fr:lkFr [dY] = [⟨#[49]⟩]:=by kernel_rfl
theorem dX_lock:lockE ⟨⟨#[84]⟩,[dX]⟩ = 0:=by
 unfold lockE
 rw [if_neg (by rw [dX_chk]; decide),if_neg (by show ¬ ¬ nbE [dX] = 0; rw [dX_nbE]; decide),if_neg (by show ¬ 999 < (lkPg (nbS [dX])).length; rw [dX_nbS,dY_pg]; decide)]
theorem dY_ok:LnOk dY:=⟨⟨.inr (by kernel_rfl),by decide,by decide,by kernel_rfl,by kernel_rfl⟩,by decide⟩
theorem lfAt {w:World} {F:Nat → Prop} {l:List LfT} {A:Option Addr} {n c:Nat} (h:Sli lfR w F l (.slice A n c)) (k:Nat) (hk:k < l.length):∃ b off,A = some ⟨b,off,none⟩ ∧ F b ∧ w.cell? ⟨b,off + k * 4,none⟩ = some (.string l[k].1) ∧ w.cell? ⟨b,off + k * 4 + 1,none⟩ = some (.int .i64 l[k].2.1) ∧ w.cell? ⟨b,off + k * 4 + 2,none⟩ = some (.string l[k].2.2.1) ∧ w.cell? ⟨b,off + k * 4 + 3,none⟩ = some l[k].2.2.2:=by
 obtain ⟨b,off,a,e,hb,hr,hc⟩:=h.at_ k hk
 have ha:a = lfC l[k]:=hr
 subst ha
 exact ⟨b,off,e,hb,hc 0 _ rfl,hc 1 _ rfl,hc 2 _ rfl,hc 3 _ rfl⟩
set_option maxRecDepth 100000 in
set_option maxHeartbeats 8000000 in
theorem drafts_c (w:World) (hm:MaxLaid w) (he:ErrsLaid w) (hp:PowLaid w):Calls Tryz.prog 9 #[] w fun e w'=>e = .returned (.bool true) ∧ Below w.heap.size w w':=by
 have HB1:=Lib.hid ((Below.refl w.heap.size w).alloc (Nat.le_refl _) (.cells #[.string ⟨#[]⟩,.int .i64 1,.string ⟨#[72,65,76,76]⟩,.int .i64 1,.slice none 0 0] 46))
 have hz1:w.heap.size < (w.alloc (.cells #[.string ⟨#[]⟩,.int .i64 1,.string ⟨#[72,65,76,76]⟩,.int .i64 1,.slice none 0 0] 46)).heap.size:=by simp
 have HS:=Lib.hid (show ScL (w.alloc (.cells #[.string ⟨#[]⟩,.int .i64 1,.string ⟨#[72,65,76,76]⟩,.int .i64 1,.slice none 0 0] 46)) (fun q=>q = w.heap.size) ⟨#[84]⟩ [(dX,.slice none 0 0)] (.slice (some ⟨w.heap.size,0,none⟩) 1 1) from
  ⟨Sli.new (R:=svR) (cs:=[.string ⟨#[]⟩,.int .i64 1,.string ⟨#[72,65,76,76]⟩,.int .i64 1,.slice none 0 0]) 46 1 (Lay.one (R:=svR) (x:=(dX,.slice none 0 0)) rfl) rfl (Nat.le_refl _) (by decide),fun y hy=>by rw [List.mem_singleton.1 hy]; exact Sli.nil_,fun q hq=>by rw [show q = _ from hq]; exact hz1,by decide,by decide,fun y hy=>by
   rw [List.mem_singleton.1 hy]
   exact ⟨by decide,by decide,by decide,fun p hp=>by cases hp⟩⟩)
 have HER:=Lib.hid (fun (W:World) (hb:Below w.heap.size w W)=>he.below hb (Nat.le_refl _))
 have HLK:=Lib.hid (rvLock_c ⟨#[84]⟩ [(dX,.slice none 0 0)] (.slice (some ⟨w.heap.size,0,none⟩) 1 1) _ HS.out (by decide) (max_below hm HB1.out (Nat.le_refl _)) (HER.out _ HB1.out) (pow_below hp HB1.out (Nat.le_refl _)) (fun _ _=>by
  show (∀ y ∈ nbS [dX],LnOk y ∧ y.paras.length ≤ 61) ∧ SortsK ((nbS [dX]).map (·.no)) _
  rw [dX_nbS]
  exact ⟨fun y hy=>by rw [List.mem_singleton.1 hy]; exact ⟨dY_ok,by decide⟩,sorts1 _ _ (by decide)⟩))
 clear hm he hp HS
 go_enter Tryz.func9,Tryz.ntmps9
 go_upto_region 1 with (fail)
 go_wp2_with fail
 refine HLK.out.mono ?_
 rintro e w2 ⟨d,rfl,hb2,_,hd⟩
 obtain ⟨sc,vS,lv,Ps,rfl,hsc,hPs,hfl,hq1,_,_,hlv⟩:=hd dX_lock
 have HB2:=Lib.hid (HB1.out.trans (hb2.mono HB1.out.size))
 rw [show lockE ⟨⟨#[84]⟩,[((dX,.slice none 0 0):Scene × Value)].map (·.1)⟩ = 0 from dX_lock]
 obtain ⟨A5,c5,e5,_,_⟩:=hq1.form
 subst e5
 have hP:Ps.length = 1:=by
  have h1:=congrArg List.length hPs
  rw [List.length_map] at h1
  rw [h1]
  show (lkPg (nbS [dX])).length = 1
  rw [dX_nbS]
  exact dY_pg
 have hfs:lkFr (nbS ([((dX,.slice none 0 0):Scene × Value)].map (·.1))) = [⟨#[49]⟩]:=by
  show lkFr (nbS [dX]) = _
  rw [dX_nbS]
  exact dY_fr
 rw [hfs,hP] at hlv
 obtain ⟨A6,c6,e6,_,_⟩:=hlv.form
 subst e6
 obtain ⟨b,off,e7,hb,_,_,q2,_⟩:=lfAt hlv 0 (by rw [lvs_len]; decide)
 subst e7
 have q2':w2.cell? ⟨b,off + 2,none⟩ = some (.string ⟨#[49]⟩):=by
  have h1:(lvs [⟨#[49]⟩] Ps 1)[0]'(by rw [lvs_len]; decide) = (itN 0,1,⟨#[49]⟩,((Ps[0]?).map (·.2)).getD (.slice none 0 0)):=rfl
  rw [h1] at q2
  simpa using q2
 rw [lvs_len]
 unfold drC
 have HBW:=Lib.hid (HB2.out.alloc HB2.out.size (.cells #[.int .i64 1,.string ⟨#[84]⟩,.slice A5 sc.length c5,.slice none 0 0,.slice (some ⟨b,off,none⟩) 1 c6] 34))
 have hq:Hid (∀ W,Below (w2.alloc (.cells #[.int .i64 1,.string ⟨#[84]⟩,.slice A5 sc.length c5,.slice none 0 0,.slice (some ⟨b,off,none⟩) 1 c6] 34)).heap.size (w2.alloc (.cells #[.int .i64 1,.string ⟨#[84]⟩,.slice A5 sc.length c5,.slice none 0 0,.slice (some ⟨b,off,none⟩) 1 c6] 34)) W → W.cell? ⟨w2.heap.size,4,none⟩ = some (.slice (some ⟨b,off,none⟩) 1 c6) ∧ W.cell? ⟨b,off + 2,none⟩ = some (.string ⟨#[49]⟩)):=Lib.hid fun W hx=>by
  obtain ⟨yy,_⟩:=str_cells ((hx.block w2.heap.size (by simp)).trans (heap_alloc_new w2 _))
  refine ⟨yy 4,?_⟩
  rw [hx.cell (p:=⟨b,off + 2,none⟩) (by have:=hb.2; simp; omega),World.cell?_alloc_lt w2 _ ⟨b,off + 2,none⟩ hb.2]
  exact q2'
 have HBT:=Lib.hid (Between12_c (w2.alloc (.cells #[.int .i64 1,.string ⟨#[84]⟩,.slice A5 sc.length c5,.slice none 0 0,.slice (some ⟨b,off,none⟩) 1 c6] 34)) (HER.out _ HBW.out))
 clear q2 q2' hlv hq1 hfs hP hPs hfl hsc hd hb hb2 HLK
 go_upto_region 2 with (fail)
 generalize w2.alloc (.cells #[.int .i64 1,.string ⟨#[84]⟩,.slice A5 sc.length c5,.slice none 0 0,.slice (some ⟨b,off,none⟩) 1 c6] 34) = w3 at *
 go_wp2_with fail
 refine HBT.out.mono ?_
 rintro e w4 ⟨rfl,hb4⟩
 obtain ⟨z4,z2⟩:=hq.out w4 hb4
 have HB4:=Lib.hid (HBW.out.trans (hb4.mono HBW.out.size))
 clear hb4 HBT
 go_wp2
 go_ret
 exact ⟨rfl,HB4.out⟩
end
section
open Go.RowKit Go.Sort
section
variable {w wx:World} {rs:List Row} {P:List Pc}
theorem MR.elem {t:TypeId} {l:List Value} {g n cap k:Nat} (h:MR w ((t,l,.slice (some ⟨g,0,none⟩) n cap) :: rs) P wx) (hk:k < l.length) (u:Value):MR w ((t,l.set k u,.slice (some ⟨g,0,none⟩) n cap) :: rs) P (wx.setCell ⟨g,k,none⟩ u):=by
 have h0:=h.own _ (List.mem_cons_self ..)
 have hb:=h0.block g rfl
 have hd:=List.pairwise_cons.1 h.dis
 have hm:l.modify k (fun _=>u) = l.set k u:=by
  apply List.ext_getElem?
  intro i
  rw [List.getElem?_modify,List.getElem?_set]
  by_cases e:k = i
  ·subst e
   simp [hk]
  ·rw [if_neg e]
   cases l[i]? <;> simp [e]
 have hown:=Own.modify (n:=1) (enc:=fun v:Value=>[v]) (hn:=fun _=>rfl) h0 (fun _=>u) k 0 u (fun x=>rfl) (by decide) hk
 dsimp only at hown
 rw [hm,Nat.mul_one] at hown
 have ho:∀ q,q ≠ g → (wx.setCell ⟨g,k,none⟩ u).heap[q]? = wx.heap[q]?:=fun q hq=>Below.heap_setCell wx ⟨g,k,none⟩ u q (by exact hq)
 refine ⟨belSet h.bel hb.1 u,fun r hr=>?_,List.pairwise_cons.2 ⟨fun r hr q hq=>hd.1 r hr q hq,hd.2⟩,fun p hp=>?_⟩
 ·rcases List.mem_cons.1 hr with rfl | hr2
  ·exact hown
  ·exact (h.own r (by simp [hr2])).keepV fun q hq=>ho q (fun e=>by subst e; exact hd.1 r hr2 _ rfl hq)
 ·obtain ⟨k1,k2,k3⟩:=h.prv p hp
  exact ⟨(ho p.1 (fun e=>k3 _ (List.mem_cons_self ..) (by rw [e]; rfl))).trans k1,k2,fun r hr=>by
   rcases List.mem_cons.1 hr with rfl | hr2
   ·exact k3 (t,l,.slice (some ⟨g,0,none⟩) n cap) (by simp)
   ·exact k3 r (by simp [hr2])⟩
theorem MR.at_ {t:TypeId} {l:List Value} {v:Value} {k:Nat} (h:MR w ((t,l,v) :: rs) P wx) (hk:k < l.length):∃ g c,v = .slice (some ⟨g,0,none⟩) l.length c ∧ wx.cell? ⟨g,k,none⟩ = some l[k] ∧ wx.frozen? ⟨g,k,none⟩ = false ∧ g < wx.heap.size ∧ w.heap.size ≤ g:=by
 have h0:=h.own _ (List.mem_cons_self ..)
 rcases h0.form with ⟨_,h2⟩ | ⟨g,c,e,_⟩
 ·dsimp only at h2; rw [h2] at hk; simp at hk
 ·dsimp only at h0 e
  subst e
  have hc:=Own.cellAt (n:=1) (enc:=fun v:Value=>[v]) (hn:=fun _=>rfl) h0 k hk 0 (by decide)
  have hb:=h0.block g rfl
  rw [Nat.mul_one] at hc
  exact ⟨g,c,rfl,hc.1,hc.2,hb.2,hb.1⟩
end
abbrev PgL:=List ByteArray × Value
def rowP (q:PgL):Row:=(9,q.1.map Value.string,q.2)
structure ShM (w:World) (o:Nat) (Qs:List PgL) (v:Value) (Rs:List Row) (X:List Pc) (wx:World):Prop where
 mr:MR w ((31,Qs.map (·.2),v) :: (Qs.map rowP ++ Rs)) ((o,#[v],160) :: X) wx
 ne:∀ x ∈ X,x.1 ≠ o
section
variable {w wx wy:World} {o:Nat} {Qs Ps:List PgL} {v pv:Value} {pg:List ByteArray} {Rs:List Row} {X:List Pc}
theorem ShM.below (h:ShM w o Qs v Rs X wx) (hb:Below wx.heap.size wx wy):ShM w o Qs v Rs X wy:=⟨h.mr.below hb,h.ne⟩
theorem ShM.drew (h:ShM w o Qs v Rs X wx):ShM w o Qs v Rs X wx.drew:=⟨h.mr.drew,h.ne⟩
theorem ShM.alloc (h:ShM w o Qs v Rs X wx) (b:Obj):ShM w o Qs v Rs X (wx.alloc b):=⟨h.mr.alloc b,h.ne⟩
theorem ShM.form (h:ShM w o Qs v Rs X wx):∃ A c,v = .slice A Qs.length c:=by
 obtain ⟨A,c,e⟩:=own_sl (h.mr.own _ (List.mem_cons_self ..))
 dsimp only at e
 rw [List.length_map] at e
 exact ⟨A,c,e⟩
theorem ShM.box (h:ShM w o Qs v Rs X wx):wx.cell? ⟨o,0,none⟩ = some v ∧ wx.frozen? ⟨o,0,none⟩ = false ∧ o < wx.heap.size:=by
 obtain ⟨a,b⟩:=h.mr.cell (p:=(o,#[v],160)) (by simp)
 exact ⟨a 0,b 0,h.mr.plt (p:=(o,#[v],160)) (by simp)⟩
theorem ShM.last (h:ShM w o (Ps ++ [(pg,pv)]) v Rs X wx):(∃ g c,v = .slice (some ⟨g,0,none⟩) (Ps.length + 1) c ∧ wx.cell? ⟨g,Ps.length,none⟩ = some pv ∧ wx.frozen? ⟨g,Ps.length,none⟩ = false ∧ g < wx.heap.size ∧ g ≠ o ∧ pv.ownBlock ≠ some g) ∧ (∃ A c,pv = .slice A pg.length c) ∧ pv.ownBlock ≠ some o:=by
 have hk:Ps.length < ((Ps ++ [(pg,pv)]).map (·.2)).length:=by simp
 obtain ⟨g,c,e,h1,h2,h3,h4⟩:=h.mr.at_ hk
 have hr:=h.mr.own (rowP (pg,pv)) (by simp)
 obtain ⟨A,c2,e2⟩:=own_sl hr
 change pv = .slice A (pg.map Value.string).length c2 at e2
 rw [List.length_map] at e2
 have hp:=(h.mr.prv (o,#[v],160) (by simp)).2.2
 refine ⟨⟨g,c,by rw [e]; simp,by rw [h1]; simp,h2,h3,fun e3=>hp _ (List.mem_cons_self ..) (by rw [e,e3]; rfl),fun e3=>?_⟩,⟨A,c2,e2⟩,hp (rowP (pg,pv)) (by simp)⟩
 have hd:=(List.pairwise_cons.1 h.mr.dis).1 (rowP (pg,pv)) (by simp)
 exact hd g (by rw [e]; rfl) e3
theorem ShM.front (h:ShM w o (Ps ++ [(pg,pv)]) v Rs X wx):MR w ((9,pg.map Value.string,pv) :: (31,(Ps ++ [(pg,pv)]).map (·.2),v) :: (Ps.map rowP ++ Rs)) ((o,#[v],160) :: X) wx:=by
 have h2:=h.mr
 rw [List.map_append (f:=rowP),List.append_assoc] at h2
 exact MR.pick (a:=(31,(Ps ++ [(pg,pv)]).map (·.2),v) :: Ps.map rowP) (r:=rowP (pg,pv)) (b:=Rs) h2
theorem ShM.put {pg2:List ByteArray} {v2:Value} {g n c:Nat} (h:MR w ((9,pg2.map Value.string,v2) :: (31,(Ps ++ [(pg,pv)]).map (·.2),.slice (some ⟨g,0,none⟩) n c) :: (Ps.map rowP ++ Rs)) ((o,#[.slice (some ⟨g,0,none⟩) n c],160) :: X) wx) (hne:∀ x ∈ X,x.1 ≠ o) :
  ShM w o (Ps ++ [(pg2,v2)]) (.slice (some ⟨g,0,none⟩) n c) Rs X (wx.setCell ⟨g,Ps.length,none⟩ v2):=by
 have h2:MR w _ _ _:=h.perm (List.Perm.swap _ _ _)
 have h3:=h2.elem (k:=Ps.length) (by simp) v2
 have e:((Ps ++ [(pg,pv)]).map (·.2)).set Ps.length v2 = (Ps ++ [(pg2,v2)]).map (·.2):=by
  rw [List.map_append,List.map_append]
  rw [List.set_append_right _ _ (by simp)]
  simp
 rw [e] at h3
 refine ⟨?_,hne⟩
 rw [List.map_append (f:=rowP),List.append_assoc]
 exact MR.unpick (a:=(31,(Ps ++ [(pg2,v2)]).map (·.2),.slice (some ⟨g,0,none⟩) n c) :: Ps.map rowP) (r:=rowP (pg2,v2)) (b:=Rs) (h3.perm (List.Perm.swap _ _ _))
end
end
section
open Go.RowKit Go.Sort
abbrev LfE:=(ByteArray × Int × ByteArray × List ByteArray) × Value
def lfeC (y:LfE):List Value:=[.string y.1.1,.int .i64 y.1.2.1,.string y.1.2.2.1,y.2]
def lfeR:Rep LfE:=Rep.flat 4 lfeC (fun _=>rfl)
structure LfW (w:World) (F:Nat → Prop) (l:List LfE) (v:Value):Prop where
 sli:Sli lfeR w F l v
 ln:∀ y ∈ l,Sli strR w F y.1.2.2.2 y.2
 lt:∀ q,F q → q < w.heap.size
theorem LfW.below {w w':World} {F:Nat → Prop} {l:List LfE} {v:Value} (h:LfW w F l v) (hb:Below w.heap.size w w'):LfW w' F l v:=
 ⟨h.sli.below hb h.lt,fun y hy=>(h.ln y hy).below hb h.lt,fun q hq=>Nat.lt_of_lt_of_le (h.lt q hq) hb.size⟩
theorem lfeAt {w:World} {F:Nat → Prop} {l:List LfE} {A:Option Addr} {n c:Nat} (h:Sli lfeR w F l (.slice A n c)) (k:Nat) (hk:k < l.length):∃ b off,A = some ⟨b,off,none⟩ ∧ F b ∧ w.cell? ⟨b,off + k * 4,none⟩ = some (.string l[k].1.1) ∧ w.cell? ⟨b,off + k * 4 + 1,none⟩ = some (.int .i64 l[k].1.2.1) ∧ w.cell? ⟨b,off + k * 4 + 2,none⟩ = some (.string l[k].1.2.2.1) ∧ w.cell? ⟨b,off + k * 4 + 3,none⟩ = some l[k].2:=by
 obtain ⟨b,off,a,e,hb,hr,hc⟩:=h.at_ k hk
 have ha:a = lfeC l[k]:=hr
 subst ha
 exact ⟨b,off,e,hb,hc 0 _ rfl,hc 1 _ rfl,hc 2 _ rfl,hc 3 _ rfl⟩
set_option maxRecDepth 100000 in
set_option maxHeartbeats 1600000 in
theorem sameLf_c {F:Nat → Prop} (a b:ByteArray) (d:Int) (x:List ByteArray) (v1 v2:Value) (w:World) (h1:Sli strR w F x v1) (h2:Sli strR w F x v2) (hF:∀ b,F b → b < w.heap.size) :
  Calls Tryz.prog 68 #[.agg #[.string a,.int .i64 d,.string b,v1],.agg #[.string a,.int .i64 d,.string b,v2]] w fun e w'=>e = .returned (.bool true) ∧ Below w.heap.size w w':=by
 obtain ⟨A1,c1,rfl,hlc1,hc1⟩:=h1.form
 obtain ⟨A2,c2,rfl,hlc2,hc2⟩:=h2.form
 have H1:=Lib.hid h1; clear h1
 have H2:=Lib.hid h2; clear h2
 have HF:=Lib.hid hF; clear hF
 obtain ⟨n,hn1⟩:∃ n,x.length = n:=⟨_,rfl⟩
 rw [hn1] at H1 H2 ⊢
 clear hn1 hlc1 hlc2
 have HB:=Lib.hid (((Below.refl w.heap.size w).alloc (Nat.le_refl _) (.cells #[.string a,.int .i64 d,.string b,.slice A1 n c1] 58)).alloc (by simp) (.cells #[.string a,.int .i64 d,.string b,.slice A2 n c2] 58))
 have y:=(str_cells ((Below.heap_alloc (w.alloc (.cells #[.string a,.int .i64 d,.string b,.slice A1 n c1] 58)) (.cells #[.string a,.int .i64 d,.string b,.slice A2 n c2] 58) w.heap.size (by simp)).trans (heap_alloc_new w (.cells #[.string a,.int .i64 d,.string b,.slice A1 n c1] 58)))).1
 have z:=(str_cells (heap_alloc_new (w.alloc (.cells #[.string a,.int .i64 d,.string b,.slice A1 n c1] 58)) (.cells #[.string a,.int .i64 d,.string b,.slice A2 n c2] 58))).1
 rw [show (w.alloc (.cells #[.string a,.int .i64 d,.string b,.slice A1 n c1] 58)).heap.size = w.heap.size + 1 by simp] at z
 have HY:=Lib.hid y
 have HZ:=Lib.hid z
 clear y z
 go_enter Tryz.func68,Tryz.ntmps68
 go_upto_region 1 with (fail)
 generalize (w.alloc (.cells #[.string a,.int .i64 d,.string b,.slice A1 n c1] 58)).alloc (.cells #[.string a,.int .i64 d,.string b,.slice A2 n c2] 58) = w1 at *
 have y0:w1.cell? ⟨w.heap.size,0,none⟩ = some (.string a):=HY.out 0
 have y1:w1.cell? ⟨w.heap.size,1,none⟩ = some (.int .i64 d):=HY.out 1
 have y2:w1.cell? ⟨w.heap.size,2,none⟩ = some (.string b):=HY.out 2
 have y3:w1.cell? ⟨w.heap.size,3,none⟩ = some (.slice A1 n c1):=HY.out 3
 have z0:w1.cell? ⟨w.heap.size + 1,0,none⟩ = some (.string a):=HZ.out 0
 have z1:w1.cell? ⟨w.heap.size + 1,1,none⟩ = some (.int .i64 d):=HZ.out 1
 have z2:w1.cell? ⟨w.heap.size + 1,2,none⟩ = some (.string b):=HZ.out 2
 have z3:w1.cell? ⟨w.heap.size + 1,3,none⟩ = some (.slice A2 n c2):=HZ.out 3
 have HEQ:=eqStr_c x x (.slice A1 n c1) (.slice A2 n c2) (fun q=>q < w1.heap.size) w1 ((H1.out.below HB.out HF.out).more fun q hq=>by have:=HF.out q hq; have:=HB.out.size; omega) ((H2.out.below HB.out HF.out).more fun q hq=>by have:=HF.out q hq; have:=HB.out.size; omega) (fun q hq=>hq)
 rw [decide_eq_true rfl] at HEQ
 have HEQ:=Lib.hid HEQ
 clear H1 H2 HY HZ
 go_wp2_with fail
 refine HEQ.out.mono ?_
 rintro e w2 ⟨rfl,hb2⟩
 have HB2:=Lib.hid (HB.out.trans (hb2.mono HB.out.size))
 clear hb2
 go_wp2
 go_ret
 exact ⟨rfl,HB2.out⟩
theorem leaves_fn:∀ args W,(callFunc 68 args).run Tryz.prog W = .ok (.enter 68 args) W:=fun _ _=>by kernel_rfl
set_option maxRecDepth 100000 in
set_option maxHeartbeats 1600000 in
theorem eqLeaves_c {F:Nat → Prop} (l1 l2:List LfE) (v1 v2:Value) (w:World) (h1:LfW w F l1 v1) (h2:LfW w F l2 v2) (he:l1.map (·.1) = l2.map (·.1)) :
  Calls Tryz.prog 67 #[v1,v2,.func (.func 68) #[] #[]] w fun e w'=>e = .returned (.bool true) ∧ Below w.heap.size w w':=by
 obtain ⟨A1,c1,rfl,hlc1,hc1⟩:=h1.sli.form
 obtain ⟨A2,c2,rfl,hlc2,hc2⟩:=h2.sli.form
 have eg:=leaves_fn
 have H1:=Lib.hid h1; clear h1
 have H2:=Lib.hid h2; clear h2
 have hne:l1.length = l2.length:=by have:=congrArg List.length he; simpa using this
 obtain ⟨n,hn1⟩:∃ n,l1.length = n:=⟨_,rfl⟩
 have hn2:l2.length = n:=by omega
 have HN1:=Lib.hid hn1
 have HN2:=Lib.hid hn2
 have HE:=Lib.hid he
 rw [hn1] at H1 hlc1 ⊢
 rw [hn2] at H2 hlc2 ⊢
 clear hn1 hn2 hne he
 go_enter Tryz.func67,Tryz.ntmps67
 go_wp2
 go_loopw [17] (fun i wr=>∃ k:Nat,k ≤ n ∧ i = .int .i64 k ∧ Below w.heap.size w wr) (fun i _=>n - (intOf i).toNat)
 case atStart=>exact ⟨0,Nat.zero_le _,rfl,Below.refl _ _⟩
 case round=>
  obtain ⟨k,hk,rfl,hb⟩:=hrel
  by_cases hlt:k < n
  ·have hk1:k < l1.length:=by rw [HN1.out]; exact hlt
   have hk2:k < l2.length:=by rw [HN2.out]; exact hlt
   have S1:=H1.out.below hb
   have S2:=H2.out.below hb
   obtain ⟨b,off,rfl,hfb,a0,a1,a2,a3⟩:=lfeAt S1.sli k hk1
   obtain ⟨b2,off2,rfl,hfb2,d0,d1,d2,d3⟩:=lfeAt S2.sli k hk2
   have hltb:b < wr.heap.size:=S1.lt b hfb
   have hltb2:b2 < wr.heap.size:=S2.lt b2 hfb2
   have p1:=S1.ln _ (List.getElem_mem hk1)
   have p2:=S2.ln _ (List.getElem_mem hk2)
   have hxy:(l1[k]'hk1).1 = (l2[k]'hk2).1:=by
    have h:(l1.map (·.1))[k]? = (l2.map (·.1))[k]?:=by rw [HE.out]
    rw [List.getElem?_map,List.getElem?_map,List.getElem?_eq_getElem hk1,List.getElem?_eq_getElem hk2] at h
    injection h
   obtain ⟨A3,c3,e3,l3,_⟩:=p1.form
   obtain ⟨A4,c4,e4,l4,_⟩:=p2.form
   clear l3 l4
   have HBB:=Lib.hid hb
   have HB2:=Lib.hid (fun (o1 o2:Obj)=>show Below wr.heap.size wr ((wr.alloc o1).alloc o2) from (((Below.refl _ wr).alloc (Nat.le_refl _) o1).alloc (by simp) o2))
   rw [e3] at a3 p1
   rw [e4] at d3 p2
   rw [← hxy] at d0 d1 d2 d3 p2
   have HEQ:=Lib.hid (fun (W:World) (hW2:Below wr.heap.size wr W)=>sameLf_c (l1[k]'hk1).1.1 (l1[k]'hk1).1.2.2.1 (l1[k]'hk1).1.2.1 (l1[k]'hk1).1.2.2.2 _ _ W (p1.below hW2 S1.lt) (p2.below hW2 S2.lt) (fun b hb=>Nat.lt_of_lt_of_le (S1.lt b hb) hW2.size))
   clear p1 p2 S1 S2 e3 e4 hxy
   generalize (l1[k]'hk1).1 = x at *
   generalize x.2.2.2.length = n3 at *
   clear hk1 hk2 hb hfb hfb2
   go_wp2_with fail
   refine (HEQ.out _ (by exact HB2.out _ _)).mono ?_
   rintro e w' ⟨rfl,hb'⟩
   have HB3:=Lib.hid (HBB.out.trans (((HB2.out _ _).trans (hb'.mono (HB2.out _ _).size)).mono HBB.out.size))
   clear hb'
   go_wp2
   go_roundw
   case rel=>exact ⟨k + 1,by omega,intNum,HB3.out⟩
   case measure=>simp [intOf]; omega
  ·go_wp2
   go_ret
   exact ⟨rfl,hb⟩
set_option maxRecDepth 100000 in
set_option maxHeartbeats 1600000 in
theorem SameLeaves_c {F:Nat → Prop} (l1 l2:List LfE) (v1 v2:Value) (w:World) (h1:LfW w F l1 v1) (h2:LfW w F l2 v2) (he:l1.map (·.1) = l2.map (·.1)) :
  Calls Tryz.prog 29 #[v1,v2] w fun e w'=>e = .returned (.bool true) ∧ Below w.heap.size w w':=by
 have HEQ:=Lib.hid (eqLeaves_c l1 l2 v1 v2 w h1 h2 he)
 clear h1 h2 he
 go_enter Tryz.func29,Tryz.ntmps29
 go_wp2_with fail
 refine HEQ.out.mono ?_
 rintro e w2 ⟨rfl,hb2⟩
 have HB:=Lib.hid hb2
 clear hb2
 go_wp2
 go_ret
 exact ⟨rfl,HB.out⟩
end
section
open Go.RowKit Go.Sort
set_option maxRecDepth 100000 in
set_option maxHeartbeats 4000000 in
theorem SameDrafts_c {F:Nat → Prop} (dn:Int) (t:ByteArray) (l1 l2:List (Scene × Value)) (f1 f2:List LfE) (v1 v2 u1 u2:Value) (w:World) (h1:Sc2 w F l1 v1) (h2:Sc2 w F l2 v2) (he:l1.map (·.1) = l2.map (·.1)) (k1:LfW w F f1 u1) (k2:LfW w F f2 u2) (hf:f1.map (·.1) = f2.map (·.1)) :
  Calls Tryz.prog 10 #[.agg (drC dn t v1 (.slice none 0 0) u1),.agg (drC dn t v2 (.slice none 0 0) u2)] w fun e w'=>e = .returned (.bool true) ∧ Below w.heap.size w w':=by
 have hlt:=k1.lt
 have HB:=Lib.hid (((Below.refl w.heap.size w).alloc (Nat.le_refl _) (.cells (drC dn t v1 (.slice none 0 0) u1) 34)).alloc (by simp) (.cells (drC dn t v2 (.slice none 0 0) u2) 34))
 have y:=(str_cells ((Below.heap_alloc (w.alloc (.cells (drC dn t v1 (.slice none 0 0) u1) 34)) (.cells (drC dn t v2 (.slice none 0 0) u2) 34) w.heap.size (by simp)).trans (heap_alloc_new w (.cells (drC dn t v1 (.slice none 0 0) u1) 34)))).1
 have z:=(str_cells (heap_alloc_new (w.alloc (.cells (drC dn t v1 (.slice none 0 0) u1) 34)) (.cells (drC dn t v2 (.slice none 0 0) u2) 34))).1
 rw [show (w.alloc (.cells (drC dn t v1 (.slice none 0 0) u1) 34)).heap.size = w.heap.size + 1 by simp] at z
 have hz2:((w.alloc (.cells (drC dn t v1 (.slice none 0 0) u1) 34)).alloc (.cells (drC dn t v2 (.slice none 0 0) u2) 34)).heap.size = w.heap.size + 2:=by simp
 have HY:=Lib.hid y
 have HZ:=Lib.hid z
 have HSS:=Lib.hid (fun (W:World) (hb:Below w.heap.size w W)=>SameScripts_c t t l1 l2 v1 v2 W (h1.below hb) (h2.below hb))
 have HSL:=Lib.hid (fun (W:World) (hb:Below w.heap.size w W)=>SameLeaves_c f1 f2 u1 u2 W (k1.below hb) (k2.below hb) hf)
 have HNL:=Lib.hid (fun (W:World)=>show Calls Tryz.prog 28 #[.slice none 0 0,.slice none 0 0] W (fun e w'=>e = .returned (.bool true) ∧ Below W.heap.size W w') from by
  have:=eqStr_c [] [] (.slice none 0 0) (.slice none 0 0) (fun _=>False) W Sli.nil_ Sli.nil_ (fun _ h=>h.elim)
  rwa [decide_eq_true rfl] at this)
 have HTR:=Lib.hid (show decide ((⟨t,l1.map (·.1)⟩:Script) = ⟨t,l2.map (·.1)⟩) = true from decide_eq_true (by rw [he]))
 obtain ⟨B1,b1,e1,_,_⟩:=h1.sli.form
 obtain ⟨B2,b2,e2,_,_⟩:=h2.sli.form
 obtain ⟨B3,b3,e3,_,_⟩:=k1.sli.form
 obtain ⟨B4,b4,e4,_,_⟩:=k2.sli.form
 subst e1; subst e2; subst e3; subst e4
 generalize l1.length = n1 at *
 generalize l2.length = n2 at *
 generalize f1.length = n3 at *
 generalize f2.length = n4 at *
 clear h1 h2 k1 k2 he hf y z hlt
 go_enter Tryz.func10,Tryz.ntmps10
 go_upto_region 1 with (fail)
 unfold drC at *
 generalize (w.alloc (.cells #[.int .i64 dn,.string t,.slice B1 n1 b1,.slice none 0 0,.slice B3 n3 b3] 34)).alloc (.cells #[.int .i64 dn,.string t,.slice B2 n2 b2,.slice none 0 0,.slice B4 n4 b4] 34) = w1 at *
 have HXC:=Lib.hid (fun (W:World) (hb:Below w1.heap.size w1 W)=>show (W.cell? ⟨w.heap.size,0,none⟩ = some (.int .i64 dn) ∧ W.cell? ⟨w.heap.size,1,none⟩ = some (.string t) ∧ W.cell? ⟨w.heap.size,2,none⟩ = some (.slice B1 n1 b1) ∧ W.cell? ⟨w.heap.size,3,none⟩ = some (.slice none 0 0) ∧ W.cell? ⟨w.heap.size,4,none⟩ = some (.slice B3 n3 b3)) ∧
   (W.cell? ⟨w.heap.size + 1,0,none⟩ = some (.int .i64 dn) ∧ W.cell? ⟨w.heap.size + 1,1,none⟩ = some (.string t) ∧ W.cell? ⟨w.heap.size + 1,2,none⟩ = some (.slice B2 n2 b2) ∧ W.cell? ⟨w.heap.size + 1,3,none⟩ = some (.slice none 0 0) ∧ W.cell? ⟨w.heap.size + 1,4,none⟩ = some (.slice B4 n4 b4)) from
  have k:=fun (b i:Nat) (hb':b < w1.heap.size)=>hb.cell (p:=⟨b,i,none⟩) hb'
  ⟨⟨(k _ _ (by omega)).trans (HY.out 0),(k _ _ (by omega)).trans (HY.out 1),(k _ _ (by omega)).trans (HY.out 2),(k _ _ (by omega)).trans (HY.out 3),(k _ _ (by omega)).trans (HY.out 4)⟩,
   ⟨(k _ _ (by omega)).trans (HZ.out 0),(k _ _ (by omega)).trans (HZ.out 1),(k _ _ (by omega)).trans (HZ.out 2),(k _ _ (by omega)).trans (HZ.out 3),(k _ _ (by omega)).trans (HZ.out 4)⟩⟩)
 obtain ⟨⟨a0,a1,a2,a3,a4⟩,⟨d0,d1,d2,d3,d4⟩⟩:=HXC.out w1 (Below.refl _ _)
 have HS1:=HSS.out w1 HB.out
 rw [HTR.out] at HS1
 have HS1:=Lib.hid HS1
 clear HY HZ
 go_wp2_with fail
 refine HS1.out.mono ?_
 rintro e w2 ⟨rfl,hb2⟩
 have B2':=Lib.hid (show Below w1.heap.size w1 w2 from hb2)
 clear hb2 a0 a1 a2 a3 a4 d0 d1 d2 d3 d4
 obtain ⟨⟨a0,a1,a2,a3,a4⟩,⟨d0,d1,d2,d3,d4⟩⟩:=HXC.out w2 B2'.out
 go_wp2_with fail
 refine (HNL.out w2).mono ?_
 rintro e w3 ⟨rfl,hb3⟩
 have B3':=Lib.hid (B2'.out.trans (hb3.mono B2'.out.size))
 clear hb3 B2' a0 a1 a2 a3 a4 d0 d1 d2 d3 d4
 obtain ⟨⟨a0,a1,a2,a3,a4⟩,⟨d0,d1,d2,d3,d4⟩⟩:=HXC.out w3 B3'.out
 go_wp2_with fail
 refine (HSL.out w3 (HB.out.trans (B3'.out.mono HB.out.size))).mono ?_
 rintro e w4 ⟨rfl,hb4⟩
 have B4':=Lib.hid (HB.out.trans ((B3'.out.trans (hb4.mono B3'.out.size)).mono HB.out.size))
 clear hb4 a0 a1 a2 a3 a4 d0 d1 d2 d3 d4
 go_wp2
 go_ret
 exact ⟨rfl,B4'.out⟩
end
section
open Go.RowKit Go.Sort
structure RisK (l:List ByteArray):Prop where
 up:∀ (i j:Nat) (_:i < j) (hj:j < l.length),0 ≤ cmpN l[j] (l[i]'(by omega))
 sz:∀ x ∈ l,x.size ≤ 10000
structure SrC (l:List ByteArray) (F:Nat → Prop) (A:Option Addr) (c:Nat) (w:World):Prop where
 sli:Sli strR w F l (.slice A l.length c)
 lt:∀ q,F q → q < w.heap.size
 er:ErrsLaid w
theorem SrC.below {l:List ByteArray} {F:Nat → Prop} {A:Option Addr} {c:Nat} {w w':World} (h:SrC l F A c w) (hb:Below w.heap.size w w'):SrC l F A c w':=
 ⟨h.sli.below hb h.lt,fun q hq=>Nat.lt_of_lt_of_le (h.lt q hq) hb.size,h.er.below hb (Nat.le_refl _)⟩
theorem SrC.two {l:List ByteArray} {F:Nat → Prop} {A:Option Addr} {c:Nat} {w:World} (h:SrC l F A c w) (hR:RisK l) (i j:Nat) (hij:i < j) (hj:j < l.length) :
  ∃ (o f:Nat) (x y:ByteArray) (z:Int),A = some ⟨o,f,none⟩ ∧ 0 ≤ z ∧ (∀ d os,(Sort.grow (redrawn w d) os).cell? ⟨o,f + j,none⟩ = some (.string x)) ∧ (∀ d os,(Sort.grow (redrawn w d) os).cell? ⟨o,f + i,none⟩ = some (.string y)) ∧
   ∀ d os,Calls Tryz.prog 48 #[.string x,.string y] (Sort.grow (redrawn w d) os) (CmpP z (Sort.grow (redrawn w d) os)):=by
 have hW:∀ d os,SrC l F A c (Sort.grow (redrawn w d) os):=fun d os=>h.below (below_regrown w d os)
 obtain ⟨o,f,eA,_,_⟩:=h.sli.txt j hj
 refine ⟨o,f,l[j],l[i]'(by omega),cmpN l[j] (l[i]'(by omega)),eA,hR.up i j hij hj,fun d os=>?_,fun d os=>?_,fun d os=>compare_c _ _ _ (hR.sz _ (List.getElem_mem _)) (hR.sz _ (List.getElem_mem _)) (hW d os).er⟩
 ·obtain ⟨o',f',eA',_,q⟩:=(hW d os).sli.txt j hj
  rw [eA] at eA'
  cases eA'
  exact q
 ·obtain ⟨o',f',eA',_,q⟩:=(hW d os).sli.txt i (by omega)
  rw [eA] at eA'
  cases eA'
  exact q
theorem cmp_fn:∀ args W,(callFunc 48 args).run Tryz.prog W = .ok (.enter 48 args) W:=fun _ _=>by kernel_rfl
set_option maxRecDepth 100000 in
set_option maxHeartbeats 4000000 in
theorem order2_c {F:Nat → Prop} (l:List ByteArray) (hR:RisK l) (A:Option Addr) (n c i j:Nat) (X:Value) (w:World) (h:SrC l F A c w) (hn:l.length = n) (hn1:n ≤ 1000) (hij:i < j) (hj:j < n) :
  Calls Tryz.prog 232 #[.slice A n c,.int .i64 i,.int .i64 j,X,.func (.func 48) #[] #[]] w (fun e w'=>e = .returned (.tuple #[.int .i64 i,.int .i64 j]) ∧ Below w.heap.size w w'):=by
 have eg:=cmp_fn
 obtain ⟨o,f,x,y,z,rfl,hz,s0,s1,hcm⟩:=h.two hR i j hij (by omega)
 have HCM:=Lib.hid hcm
 have hz2:¬ z < 0:=by omega
 have hi:i < n:=by omega
 clear h hcm hn
 go_enter Tryz.func232,Tryz.ntmps232
 go_upto_region 1 with (fail)
 refine wp_region_quiet_below (by kernel_rfl) (by kernel_rfl) ?_
 repeat (first | go_big_quiet_step ((go_at_call 48; exact Calls.regrown_of (HCM.out _ _))) | quiet_step ((go_at_call 48; exact Calls.regrown_of (HCM.out _ _))))
 refine wpQuiet_nil ?_
 intro wy hwy
 have hby:=below_of_regrown hwy
 clear hwy
 go_wp2
 go_ret2
 exact ⟨rfl,hby⟩
set_option maxRecDepth 100000 in
set_option maxHeartbeats 4000000 in
theorem median_c {F:Nat → Prop} (l:List ByteArray) (hR:RisK l) (A:Option Addr) (n c i j k:Nat) (X:Value) (w:World) (h:SrC l F A c w) (hn:l.length = n) (hn1:n ≤ 1000) (hij:i < j) (hjk:j < k) (hk:k < n) :
  Calls Tryz.prog 214 #[.slice A n c,.int .i64 i,.int .i64 j,.int .i64 k,X,.func (.func 48) #[] #[]] w (fun e w'=>e = .returned (.int .i64 j) ∧ Below w.heap.size w w'):=by
 have HO:=Lib.hid (fun (i j:Nat) (W:World) (hb:Below w.heap.size w W) (hij:i < j) (hj:j < n)=>order2_c l hR A n c i j X W (h.below hb) hn hn1 hij hj)
 clear h hR hn
 go_enter Tryz.func214,Tryz.ntmps214
 go_wp2_with fail
 refine (HO.out i j w (Below.refl _ _) hij (by omega)).mono ?_
 rintro e w1 ⟨rfl,hb1⟩
 have HB1:=Lib.hid hb1
 clear hb1
 go_wp2_with fail
 refine (HO.out j k w1 HB1.out hjk hk).mono ?_
 rintro e w2 ⟨rfl,hb2⟩
 have HB2:=Lib.hid (HB1.out.trans (hb2.mono HB1.out.size))
 clear hb2 HB1
 go_wp2_with fail
 refine (HO.out i j w2 HB2.out hij (by omega)).mono ?_
 rintro e w3 ⟨rfl,hb3⟩
 have HB3:=Lib.hid (HB2.out.trans (hb3.mono HB2.out.size))
 clear hb3 HB2
 go_wp2
 go_ret
 exact ⟨rfl,HB3.out⟩
set_option maxRecDepth 100000 in
set_option maxHeartbeats 4000000 in
theorem medianAdj_c {F:Nat → Prop} (l:List ByteArray) (hR:RisK l) (A:Option Addr) (n c i:Nat) (X:Value) (w:World) (h:SrC l F A c w) (hn:l.length = n) (hn1:n ≤ 1000) (hi:0 < i) (hk:i + 1 < n) :
  Calls Tryz.prog 213 #[.slice A n c,.int .i64 i,X,.func (.func 48) #[] #[]] w (fun e w'=>e = .returned (.int .i64 i) ∧ Below w.heap.size w w'):=by
 have HM:=median_c l hR A n c (i - 1) i (i + 1) X w h hn hn1 (by omega) (by omega) hk
 rw [show ((i - 1:Nat):Int) = (i:Int) - 1 by omega,show ((i + 1:Nat):Int) = (i:Int) + 1 by omega] at HM
 have HM:=Lib.hid HM
 clear h hR hn
 go_enter Tryz.func213,Tryz.ntmps213
 go_wp2_with fail
 refine HM.out.mono ?_
 rintro e w1 ⟨rfl,hb1⟩
 have HB1:=Lib.hid hb1
 clear hb1
 go_wp2
 go_ret
 exact ⟨rfl,HB1.out⟩
end
section
open Go.RowKit Go.Sort
set_option maxRecDepth 100000 in
set_option maxHeartbeats 4000000 in
theorem insSort_c {F:Nat → Prop} (l:List ByteArray) (hR:RisK l) (A:Option Addr) (n c:Nat) (w:World) (h:SrC l F A c w) (hn:l.length = n) (hn1:n ≤ 1000) :
  Calls Tryz.prog 159 #[.slice A n c,.int .i64 0,.int .i64 n,.func (.func 48) #[] #[]] w (fun e w'=>e = .returned (.tuple #[]) ∧ Below w.heap.size w w'):=by
 have eg:=cmp_fn
 have HS:=Lib.hid (fun (W:World) (hb:Below w.heap.size w W)=>h.below hb)
 have HN:=Lib.hid hn
 clear h hn
 go_enter Tryz.func159,Tryz.ntmps159
 go_upto_region 1 with (fail)
 go_loopw [8] (fun s8 wr=>∃ i:Nat,1 ≤ i ∧ (i ≤ n ∨ i = 1) ∧ s8 = .int .i64 i ∧ Hid (Below w.heap.size w wr)) (fun s8 _=>n - (intOf s8).toNat)
 case atStart=>exact ⟨1,Nat.le_refl _,.inr rfl,rfl,Lib.hid (Below.refl _ _)⟩
 case round=>
  obtain ⟨i,hi1,hi2,rfl,HB⟩:=hrel
  by_cases hlt:i < n
  ·obtain ⟨o,f,x,y,z,eA,hz,s0,s1,hcm⟩:=(HS.out wr HB.out).two hR (i - 1) i (by omega) (by rw [HN.out]; exact hlt)
   subst eA
   have HCM:=Lib.hid hcm
   have hz2:¬ z < 0:=by omega
   have hw1:IntKind.i64.wrap ((i:Int) - 1) = (i:Int) - 1:=by rw [IntKind.wrap_i64]; omega
   have hw2:(0:Int) ≤ (i:Int) - 1:=by omega
   have hw3:((i:Int) - 1).toNat = i - 1:=by omega
   have hw4:(i:Int) - 1 < (n:Int):=by omega
   have hi3:(0:Int) < (i:Int):=by omega
   have hi4:0 < i:=by omega
   clear hcm hi2
   go_upto_region 3 with (fail)
   go_wp2
   refine wp_loop_rounds 1 ?_
   rw [rounds_succ]
   go_upto_region 4 with (fail)
   refine wp_region_quiet_below (by kernel_rfl) (by kernel_rfl) ?_
   repeat (first | go_big_quiet_step ((go_at_call 48; exact Calls.regrown_of (HCM.out _ _))) | quiet_step ((go_at_call 48; exact Calls.regrown_of (HCM.out _ _))))
   refine wpQuiet_nil ?_
   intro wy hwy
   have hby:=below_of_regrown hwy
   clear hwy
   have HB2:=Lib.hid (HB.out.trans (hby.mono HB.out.size))
   go_wp2
   go_roundw
   case rel=>exact ⟨i + 1,by omega,by omega,intNum,HB2⟩
   case measure=>simp [intOf]; omega
  ·have hlt2:¬ (i:Int) < (n:Int):=by omega
   go_wp2
   go_end0
   exact ⟨rfl,HB.out⟩
set_option maxRecDepth 100000 in
set_option maxHeartbeats 4000000 in
theorem partSort_c {F:Nat → Prop} (l:List ByteArray) (hR:RisK l) (A:Option Addr) (n c:Nat) (w:World) (h:SrC l F A c w) (hn:l.length = n) (hn0:0 < n) (hn1:n ≤ 1000) :
  Calls Tryz.prog 164 #[.slice A n c,.int .i64 0,.int .i64 n,.func (.func 48) #[] #[]] w (fun e w'=>e = .returned (.bool true) ∧ Below w.heap.size w w'):=by
 have eg:=cmp_fn
 have HS:=Lib.hid (fun (W:World) (hb:Below w.heap.size w W)=>h.below hb)
 have HN:=Lib.hid hn
 clear h hn
 go_enter Tryz.func164,Tryz.ntmps164
 go_wp2
 refine wp_loop_rounds 1 ?_
 rw [rounds_succ]
 go_upto_region 5 with (fail)
 go_loopw [9] (fun s9 wr=>∃ i:Nat,1 ≤ i ∧ i ≤ n ∧ s9 = .int .i64 i ∧ Hid (Below w.heap.size w wr)) (fun s9 _=>n - (intOf s9).toNat)
 case atStart=>exact ⟨1,Nat.le_refl _,hn0,rfl,Lib.hid (Below.refl _ _)⟩
 case round=>
  obtain ⟨i,hi1,hi2,rfl,HB⟩:=hrel
  by_cases hlt:i < n
  ·obtain ⟨o,f,x,y,z,eA,hz,s0,s1,hcm⟩:=(HS.out wr HB.out).two hR (i - 1) i (by omega) (by rw [HN.out]; exact hlt)
   subst eA
   have HCM:=Lib.hid hcm
   have hz2:¬ z < 0:=by omega
   have hw1:IntKind.i64.wrap ((i:Int) - 1) = (i:Int) - 1:=by rw [IntKind.wrap_i64]; omega
   have hw2:(0:Int) ≤ (i:Int) - 1:=by omega
   have hw3:((i:Int) - 1).toNat = i - 1:=by omega
   have hw4:(i:Int) - 1 < (n:Int):=by omega
   clear hcm hi2
   go_upto_region 5 with (fail)
   refine wp_region_quiet_below (by kernel_rfl) (by kernel_rfl) ?_
   repeat (first | go_big_quiet_step ((go_at_call 48; exact Calls.regrown_of (HCM.out _ _))) | quiet_step ((go_at_call 48; exact Calls.regrown_of (HCM.out _ _))))
   refine wpQuiet_nil ?_
   intro wy hwy
   have hby:=below_of_regrown hwy
   clear hwy
   have HB2:=Lib.hid (HB.out.trans (hby.mono HB.out.size))
   go_wp2
   go_roundw
   case rel=>exact ⟨i + 1,by omega,by omega,intNum,HB2⟩
   case measure=>simp [intOf]; omega
  ·have hin:i = n:=by omega
   subst hin
   go_upto_region 5 with (fail)
   refine wp_region_quiet_below (by kernel_rfl) (by kernel_rfl) ?_
   repeat (first | go_big_quiet_step ((fail)) | quiet_step ((fail)))
   refine wpQuiet_nil ?_
   intro wy hwy
   have hby:=below_of_regrown hwy
   clear hwy
   have HB2:=Lib.hid (HB.out.trans (hby.mono HB.out.size))
   go_wp2
   go_ret
   exact ⟨rfl,HB2.out⟩
set_option maxRecDepth 100000 in
set_option maxHeartbeats 4000000 in
theorem pivot_c {F:Nat → Prop} (l:List ByteArray) (hR:RisK l) (A:Option Addr) (n c:Nat) (w:World) (h:SrC l F A c w) (hn:l.length = n) (hn0:12 < n) (hn1:n ≤ 1000) :
  Calls Tryz.prog 162 #[.slice A n c,.int .i64 0,.int .i64 n,.func (.func 48) #[] #[]] w (fun e w'=>∃ p:Int,e = .returned (.tuple #[.int .i64 p,.int .i64 1]) ∧ Below w.heap.size w w'):=by
 obtain ⟨q,hq⟩:∃ q,n / 4 = q:=⟨_,rfl⟩
 have hq1:3 ≤ q:=by omega
 have hq2:q * 4 ≤ n:=by omega
 have hqi:(n:Int).tdiv 4 = (q:Int):=by rw [← hq]; exact (Int.ofNat_tdiv n 4).symm
 have HB1:=Lib.hid ((Below.refl w.heap.size w).alloc (Nat.le_refl _) (.cells #[.int .i64 0] 3))
 have hc1:(w.alloc (.cells #[.int .i64 0] 3)).cell? ⟨w.heap.size,0,none⟩ = some (.int .i64 0):=(str_cells (heap_alloc_new w _)).1 0
 have hs1:(w.alloc (.cells #[.int .i64 0] 3)).heap.size = w.heap.size + 1:=by simp
 have HAJ:=Lib.hid (fun (i:Nat) (X:Value) (W:World) (hb:Below w.heap.size w W) (hi:0 < i) (hk:i + 1 < n)=>medianAdj_c l hR A n c i X W (h.below hb) hn hn1 hi hk)
 have HME:=Lib.hid (fun (i j k:Nat) (X:Value) (W:World) (hb:Below w.heap.size w W) (hij:i < j) (hjk:j < k) (hk:k < n)=>median_c l hR A n c i j k X W (h.below hb) hn hn1 hij hjk hk)
 have e2:((q * 2:Nat):Int) = (q:Int) * 2:=by omega
 have e3:((q * 3:Nat):Int) = (q:Int) * 3:=by omega
 have hn8:(8:Int) ≤ (n:Int):=by omega
 clear h hR hn hq
 go_enter Tryz.func162,Tryz.ntmps162
 go_upto_region 3 with (fail)
 obtain ⟨W1,hW1⟩:∃ W1,w.alloc (.cells #[.int .i64 0] 3) = W1:=⟨_,rfl⟩
 rw [hW1] at HB1 hc1 hs1 ⊢
 clear hW1
 have HXC:=Lib.hid (fun (W:World) (hw:Below W1.heap.size W1 W)=>show W.cell? ⟨w.heap.size,0,none⟩ = some (.int .i64 0) ∧ Below w.heap.size w W from ⟨(hw.cell (p:=⟨w.heap.size,0,none⟩) (by dsimp only; omega)).trans hc1,HB1.out.trans (hw.mono HB1.out.size)⟩)
 clear hc1
 have hA1:=fun X W (hb:Below w.heap.size w W) (h50:50 ≤ n)=>HAJ.out q X W hb (by omega) (by omega)
 have hA2:=fun X W (hb:Below w.heap.size w W) (h50:50 ≤ n)=>HAJ.out (q * 2) X W hb (by omega) (by omega)
 have hA3:=fun X W (hb:Below w.heap.size w W) (h50:50 ≤ n)=>HAJ.out (q * 3) X W hb (by omega) (by omega)
 have hM:=fun X W (hb:Below w.heap.size w W)=>HME.out q (q * 2) (q * 3) X W hb (by omega) (by omega) (by omega)
 simp only [e2] at hA2
 simp only [e3] at hA3
 simp only [e2,e3] at hM
 have HA1:=Lib.hid hA1
 have HA2:=Lib.hid hA2
 have HA3:=Lib.hid hA3
 have HM:=Lib.hid hM
 clear hA1 hA2 hA3 hM HAJ HME e2 e3
 have B1:=Lib.hid (Below.refl W1.heap.size W1)
 by_cases h50:50 ≤ n
 ·have h50i:(50:Int) ≤ (n:Int):=by omega
  go_wp2_with fail
  refine (HA1.out _ W1 (HXC.out _ B1.out).2 h50).mono ?_
  rintro e w2 ⟨rfl,hb2⟩
  have B2:=Lib.hid (B1.out.trans (hb2.mono B1.out.size))
  clear hb2 B1
  go_wp2_with fail
  refine (HA2.out _ w2 (HXC.out _ B2.out).2 h50).mono ?_
  rintro e w3 ⟨rfl,hb3⟩
  have B3:=Lib.hid (B2.out.trans (hb3.mono B2.out.size))
  clear hb3 B2
  go_wp2_with fail
  refine (HA3.out _ w3 (HXC.out _ B3.out).2 h50).mono ?_
  rintro e w4 ⟨rfl,hb4⟩
  have B4:=Lib.hid (B3.out.trans (hb4.mono B3.out.size))
  clear hb4 B3
  go_wp2_with fail
  refine (HM.out _ w4 (HXC.out _ B4.out).2).mono ?_
  rintro e w5 ⟨rfl,hb5⟩
  have B5:=Lib.hid (B4.out.trans (hb5.mono B4.out.size))
  have c5:=(HXC.out _ B5.out).1
  clear hb5 B4
  go_wp2
  go_ret2
  exact ⟨_,rfl,(HXC.out _ B5.out).2⟩
 ·have h50i:¬ (50:Int) ≤ (n:Int):=by omega
  go_wp2_with fail
  refine (HM.out _ W1 (HXC.out _ B1.out).2).mono ?_
  rintro e w5 ⟨rfl,hb5⟩
  have B5:=Lib.hid (B1.out.trans (hb5.mono B1.out.size))
  have c5:=(HXC.out _ B5.out).1
  clear hb5 B1
  go_wp2
  go_ret2
  exact ⟨_,rfl,(HXC.out _ B5.out).2⟩
set_option maxRecDepth 100000 in
set_option maxHeartbeats 4000000 in
theorem pdqSort_c {F:Nat → Prop} (l:List ByteArray) (hR:RisK l) (A:Option Addr) (n c:Nat) (lim:Int) (w:World) (h:SrC l F A c w) (hn:l.length = n) (hn1:n ≤ 1000) (hlim:12 < n → ¬ lim = 0) :
  Calls Tryz.prog 109 #[.slice A n c,.int .i64 0,.int .i64 n,.int .i64 lim,.func (.func 48) #[] #[]] w (fun e w'=>e = .returned (.tuple #[]) ∧ Below w.heap.size w w'):=by
 by_cases h12:12 < n
 ·have HP:=Lib.hid (pivot_c l hR A n c w h hn h12 hn1)
  have HT:=Lib.hid (fun (W:World) (hb:Below w.heap.size w W)=>partSort_c l hR A n c W (h.below hb) hn (by omega) hn1)
  have hl0:=hlim h12
  have h12i:¬ (n:Int) ≤ 12:=by omega
  clear h hR hn hlim
  go_enter Tryz.func109,Tryz.ntmps109
  go_wp2
  refine wp_loop_rounds 1 ?_
  rw [rounds_succ]
  go_wp2_with fail
  refine HP.out.mono ?_
  rintro e w1 ⟨p,rfl,hb1⟩
  have B1:=Lib.hid hb1
  clear hb1
  go_wp2_with fail
  refine (HT.out w1 B1.out).mono ?_
  rintro e w2 ⟨rfl,hb2⟩
  have B2:=Lib.hid (B1.out.trans (hb2.mono B1.out.size))
  clear hb2
  go_wp2
  (try simp only [Exit.inBlock,Exit.then]); refine bodyPost_ret (results_none rfl _ _ _) rfl ?_
  exact ⟨rfl,B2.out⟩
 ·have HI:=Lib.hid (insSort_c l hR A n c w h hn hn1)
  have h12i:(n:Int) ≤ 12:=by omega
  clear h hR hn hlim
  go_enter Tryz.func109,Tryz.ntmps109
  go_wp2
  refine wp_loop_rounds 1 ?_
  rw [rounds_succ]
  go_wp2_with fail
  refine HI.out.mono ?_
  rintro e w1 ⟨rfl,hb1⟩
  have B1:=Lib.hid hb1
  clear hb1
  go_wp2
  (try simp only [Exit.inBlock,Exit.then]); refine bodyPost_ret (results_none rfl _ _ _) rfl ?_
  exact ⟨rfl,B1.out⟩
set_option maxRecDepth 100000 in
set_option maxHeartbeats 4000000 in
theorem sortsR (l:List ByteArray) (hR:RisK l) (hn1:l.length ≤ 1000) {F:Nat → Prop} (A:Option Addr) (c:Nat) (w:World) (h:SrC l F A c w) :
  Calls Tryz.prog 54 #[.slice A l.length c,.func (.func 48) #[] #[]] w (fun e w'=>e = .returned (.tuple #[]) ∧ Below w.heap.size w w'):=by
 obtain ⟨n,hn⟩:∃ n,l.length = n:=⟨_,rfl⟩
 rw [hn] at hn1 ⊢
 have HP:=Lib.hid (fun lim (hlim:12 < n → ¬ lim = 0)=>pdqSort_c l hR A n c lim w h hn hn1 hlim)
 have HL:=Lib.hid (fun w=>show Calls Tryz.prog 110 #[.int .u64 (n:Int)] w (fun e w'=>e = .returned (.int .i64 (Lib.bitLen (n:Int).toNat:Nat)) ∧ w' = w) from Tryz.bits_Len (n:Int) w (by omega) (by omega))
 have wr:IntKind.u64.wrap (n:Int) = n:=by simp [IntKind.wrap,IntKind.bits,IntKind.signed]; omega
 have hbl:12 < n → ¬ ((Lib.bitLen (n:Int).toNat:Nat):Int) = 0:=fun h12=>by
  have:=Lib.bitLen_half n (by omega) (by omega)
  rw [show (n:Int).toNat = n from rfl]
  omega
 have HBL:=Lib.hid hbl
 clear hn h hR hbl
 go_enter Tryz.func54,Tryz.ntmps54
 go_wp2_with fail
 refine (HL.out _).mono ?_
 rintro e w1 ⟨rfl,rfl⟩
 go_wp2_with fail
 refine (HP.out _ HBL.out).mono ?_
 rintro e w2 ⟨rfl,hb2⟩
 have B2:=Lib.hid hb2
 clear hb2
 go_wp2
 go_end0
 exact ⟨rfl,B2.out⟩
end
section
open Go.RowKit Go.Sort
theorem cb_self:∀ (x:List UInt8),Lib.compareBytes x x = 0
 | []=>rfl
 | a :: x=>by
  unfold Lib.compareBytes
  rw [if_neg (by simp),if_neg (by simp)]
  exact cb_self x
theorem cb_trans:∀ (x y z:List UInt8),0 < Lib.compareBytes x y → 0 < Lib.compareBytes y z → 0 < Lib.compareBytes x z
 | [],[],_,h,_=>by simp [Lib.compareBytes] at h
 | [],_ :: _,_,h,_=>by simp [Lib.compareBytes] at h
 | _ :: _,_,[],_,_=>by simp [Lib.compareBytes]
 | _ :: _,[],_ :: _,_,h=>by simp [Lib.compareBytes] at h
 | a :: x,b :: y,c :: z,h1,h2=>by
  unfold Lib.compareBytes at h1 h2 ⊢
  have e:∀ u v:UInt8,(u < v) = (u.toNat < v.toNat):=fun u v=>rfl
  simp only [e] at h1 h2 ⊢
  by_cases p1:a.toNat < b.toNat
  ·rw [if_pos p1] at h1; omega
  ·rw [if_neg p1] at h1
   by_cases q1:b.toNat < c.toNat
   ·rw [if_pos q1] at h2; omega
   ·rw [if_neg q1] at h2
    rw [if_neg (by omega)]
    by_cases r:c.toNat < a.toNat
    ·rw [if_pos r]; decide
    ·rw [if_neg r]
     rw [if_neg (by omega)] at h1
     rw [if_neg (by omega)] at h2
     exact cb_trans x y z h1 h2
theorem cmpN_trans {a b c:ByteArray} (h1:0 < cmpN a b) (h2:0 < cmpN b c):0 < cmpN a c:=by
 unfold cmpN at *
 rw [orI_two] at *
 have ht:=cb_trans (numC a).data.toList (numC b).data.toList (numC c).data.toList
 generalize Lib.compareBytes (numC a).data.toList (numC b).data.toList = p at *
 generalize Lib.compareBytes (numC b).data.toList (numC c).data.toList = q at *
 generalize Lib.compareBytes (numC a).data.toList (numC c).data.toList = r at *
 generalize atoiV (numD a) = x at *
 generalize atoiV (numD b) = y at *
 generalize atoiV (numD c) = z at *
 unfold Lib.compareInt at *
 by_cases a1:x < y
 ·rw [if_pos a1,if_neg (by decide)] at h1; omega
 ·by_cases a2:y < z
  ·rw [if_pos a2,if_neg (by decide)] at h2; omega
  ·by_cases a3:x > z
   ·rw [if_neg (by omega:¬ x < z),if_pos a3,if_neg (by decide)]; decide
   ·have e1:x = y:=by omega
    have e2:y = z:=by omega
    subst e1; subst e2
    simp at h1 h2 ⊢
    exact ht h1 h2
theorem ris_all {l:List ByteArray} (h:∀ i (_:i + 1 < l.length),0 < cmpN l[i + 1] l[i]):∀ (d i:Nat) (_:i + d + 1 < l.length),0 < cmpN l[i + d + 1] l[i]
 | 0,i,hi=>h i hi
 | d + 1,i,hi=>cmpN_trans (h (i + d + 1) hi) (ris_all h d i (by omega))
theorem risK_of {l:List ByteArray} (h:∀ i (_:i + 1 < l.length),0 < cmpN l[i + 1] l[i]) (hz:∀ x ∈ l,x.size ≤ 10000):RisK l:=
 ⟨fun i j hij hj=>by
  have:=ris_all h (j - i - 1) i (by omega)
  have e:i + (j - i - 1) + 1 = j:=by omega
  simp only [e] at this
  omega,hz⟩
theorem sli_small {w:World} {F:Nat → Prop} {l:List ByteArray} {A:Option Addr} {n c:Nat} (h:Sli strR w F l (.slice A n c)):∃ G:Nat → Prop,Sli strR w G l (.slice A n c) ∧ ∀ q,G q → q < w.heap.size:=by
 refine ⟨fun q=>F q ∧ q < w.heap.size,?_,fun q hq=>hq.2⟩
 obtain ⟨A',c',e,h1,h2,h3⟩:=h
 refine ⟨A',c',e,h1,h2,fun h0=>?_⟩
 obtain ⟨b,off,cs,e1,hb,hl,hc⟩:=h3 h0
 refine ⟨b,off,cs,e1,⟨hb,?_⟩,⟨hl.1,fun k x hx=>hl.2 k x hx⟩,hc⟩
 have hcl:0 < cs.length:=by rw [hl.1]; show 0 < l.length * 1; omega
 exact block_lt_of_cell (hc 0 _ (List.getElem?_eq_getElem hcl))
theorem sortsK_of {l:List ByteArray} (hR:RisK l) (hn:l.length ≤ 1000):SortsK l 48:=by
 intro F A c W h he
 obtain ⟨G,hG,hlt⟩:=sli_small h
 exact sortsR l hR hn A c W ⟨hG,hlt,he⟩
theorem noOf_mkN (k:Nat):noOf k = mkN ((k:Int) + 1) []:=by
 apply ba_list
 rw [mkN_list (by omega)]
 show (Lib.decDigits (k + 1)).toArray.toList = _
 rw [List.append_nil,show ((k:Int) + 1).toNat = k + 1 by omega]
theorem noOf_ris (k:Nat) (hk:k + 2 ≤ 1000):0 < cmpN (noOf (k + 1)) (noOf k):=by
 have hx:capsB []:=fun u hu=>by cases hu
 rw [noOf_mkN (k + 1),cmp_mkN (by omega) (by omega) hx,noOf_mkN k,mkN_D (by omega) hx,mkN_C (by omega) hx,atoiV_it ⟨by omega,by omega⟩,orI_two]
 have h1:¬ ((k + 1:Nat):Int) + 1 < (k:Int) + 1:=by omega
 have h2:((k + 1:Nat):Int) + 1 > (k:Int) + 1:=by omega
 unfold Lib.compareInt
 rw [if_neg h1,if_pos h2,if_neg (by decide)]
 decide
end
section
open Go.RowKit Go.Sort
theorem numB_noOf (k:Nat) (hk:k + 1 ≤ 999):numB (noOf k) = true:=by
 rw [noOf_mkN,numB_mkN (by omega) (by omega) (fun u hu=>by cases hu) (by decide) (by decide) (fun h=>by omega),decide_eq_true (by omega)]
theorem numL_at:∀ (k:Nat) (l:List Scene) (i:Nat) (hi:i < l.length),(numL k l)[i]? = some (if i < k then { l[i] with no:=noOf i } else l[i])
 | 0,l,i,hi=>by rw [if_neg (by omega)]; exact List.getElem?_eq_getElem hi
 | k + 1,l,i,hi=>by
  show ((numL k l).modify k fun x=>{ x with no:=noOf k })[i]? = _
  rw [List.getElem?_modify,numL_at k l i hi]
  by_cases h1:k = i
  ·subst h1
   simp
  ·by_cases h2:i < k
   ·simp [h1,h2,show i < k + 1 by omega]
   ·simp [h1,h2,show ¬ i < k + 1 by omega]
theorem numB_small {s:ByteArray} (h:numB s = true):s.size ≤ 100:=by
 unfold numB at h
 have hK:=numK_le s
 simp only [Bool.and_eq_true,decide_eq_true_eq] at h
 obtain ⟨⟨⟨_,h2⟩,_⟩,h4⟩:=h
 split at h4
 ·rename_i h5
  have:numK s ≤ 1:=by
   have e:=congrArg List.length h5
   rw [List.length_take] at e
   have hs:s.data.toList.length = s.size:=rfl
   simp at e
   omega
  omega
 ·simp only [Bool.and_eq_true,decide_eq_true_eq] at h4
  omega
theorem cutS_all {t:ByteArray} {xs:List Scene} (hc:chkE ⟨t,xs⟩ = 0):cutS xs 0 xs.length = xs:=by
 rw [← cutS_now xs 0 xs.length (fun h _=>(tmAt_now h (.inr rfl)).symm) (Nat.zero_le _),List.take_of_length_le (Nat.le_refl _),List.drop_zero]
def NbOk (l:List Scene):Prop:=(∀ y ∈ l,LnOk y ∧ y.paras.length ≤ 61) ∧ (∀ y ∈ l,numB y.no = true) ∧ ∀ i (h:i + 1 < l.length),0 < cmpN (l[i + 1]).no (l[i]).no
theorem nb_ok {t:ByteArray} {xs:List Scene} (hc:chkE ⟨t,xs⟩ = 0) (hb:nbE xs = 0) (hl:xs.length ≤ 500) (hp:∀ x ∈ xs,x.paras.length ≤ 61) :
  NbOk (nbS xs):=by
 have hOK:=chkE_ok hc
 have hok:∀ y ∈ xs,LnOk y:=fun y hy=>LnOk.of hOK (y:=y) hy
 by_cases h0:noneN xs = xs.length
 ·have e:nbS xs = numL xs.length xs:=by unfold nbS; rw [if_pos h0]
  have hlen:(numL xs.length xs).length = xs.length:=numL_len _ _
  have hat:∀ i (hi:i < xs.length),(numL xs.length xs)[i]'(by rw [hlen]; exact hi) = { xs[i] with no:=noOf i }:=fun i hi=>by
   have:=numL_at xs.length xs i hi
   rw [if_pos hi,List.getElem?_eq_getElem (by rw [hlen]; exact hi)] at this
   exact Option.some.inj this
  rw [e]
  refine ⟨fun y hy=>?_,fun y hy=>?_,fun i hi=>?_⟩
  ·obtain ⟨i,hi,rfl⟩:=List.mem_iff_getElem.1 hy
   rw [hlen] at hi
   rw [hat i hi]
   have h1:=hok _ (List.getElem_mem hi)
   exact ⟨⟨⟨.inr (numB_noOf i (by omega)),h1.ok.2⟩,h1.pn⟩,hp xs[i] (List.getElem_mem hi)⟩
  ·obtain ⟨i,hi,rfl⟩:=List.mem_iff_getElem.1 hy
   rw [hlen] at hi
   rw [hat i hi]
   exact numB_noOf i (by omega)
  ·rw [hlen] at hi
   rw [hat (i + 1) hi,hat i (by omega)]
   exact noOf_ris i (by omega)
 ·have hn0:¬ 0 < noneN xs:=fun h=>by
   unfold nbE at hb
   rw [if_neg h0,if_pos h] at hb
   cases hb
  have hr:risN xs = true:=by
   unfold nbE at hb
   rw [if_neg h0,if_neg hn0] at hb
   split at hb
   ·assumption
   ·cases hb
  have e:nbS xs = xs:=by unfold nbS; rw [if_neg h0,cutS_all hc]
  rw [e]
  have hno:∀ y ∈ xs,¬ y.no = ⟨#[]⟩:=fun y hy hn=>hn0 (by
   unfold noneN
   exact List.length_pos_of_mem (List.mem_filter.2 ⟨hy,decide_eq_true hn⟩))
  refine ⟨fun y hy=>⟨hok y hy,hp y hy⟩,fun y hy=>(hok y hy).ok.1.resolve_left (hno y hy),fun i hi=>?_⟩
  unfold risN at hr
  have:=List.all_eq_true.1 hr i (List.mem_range.2 (by omega))
  rw [decide_eq_true_eq] at this
  unfold noAt at this
  rw [List.getElem?_eq_getElem hi,List.getElem?_eq_getElem (by omega:i < xs.length)] at this
  exact this
theorem nb_sorts {t:ByteArray} {xs:List Scene} (hc:chkE ⟨t,xs⟩ = 0) (hb:nbE xs = 0) (hl:xs.length ≤ 500) (hp:∀ x ∈ xs,x.paras.length ≤ 61) :
  (∀ y ∈ nbS xs,LnOk y ∧ y.paras.length ≤ 61) ∧ SortsK ((nbS xs).map (·.no)) 48:=by
 obtain ⟨h1,h2,h3⟩:=nb_ok hc hb hl hp
 refine ⟨h1,sortsK_of (risK_of (fun i hi=>?_) fun x hx=>?_) (by rw [List.length_map,nbS_len]; omega)⟩
 ·rw [List.length_map] at hi
  rw [List.getElem_map,List.getElem_map]
  exact h3 i hi
 ·obtain ⟨y,hy,rfl⟩:=List.mem_map.1 hx
  have:=numB_small (h2 y hy)
  omega
end
section
open Go.RowKit Go.Sort
theorem cb_anti:∀ (x y:List UInt8),Lib.compareBytes x y < 0 ↔ 0 < Lib.compareBytes y x
 | [],[]=>by simp [Lib.compareBytes]
 | [],_ :: _=>by simp [Lib.compareBytes]
 | _ :: _,[]=>by simp [Lib.compareBytes]
 | a :: x,b :: y=>by
  unfold Lib.compareBytes
  have e:∀ u v:UInt8,(u < v) = (u.toNat < v.toNat):=fun u v=>rfl
  simp only [e]
  by_cases p1:a.toNat < b.toNat
  ·rw [if_pos p1,if_neg (by omega),if_pos p1]; decide
  ·by_cases p2:b.toNat < a.toNat
   ·rw [if_neg p1,if_pos p2,if_pos p2]; decide
   ·rw [if_neg p1,if_neg p2,if_neg p2,if_neg p1]
    exact cb_anti x y
theorem cmpN_anti (a b:ByteArray):cmpN a b < 0 ↔ 0 < cmpN b a:=by
 unfold cmpN
 rw [orI_two,orI_two]
 have ht:=cb_anti (numC a).data.toList (numC b).data.toList
 generalize Lib.compareBytes (numC a).data.toList (numC b).data.toList = p at *
 generalize Lib.compareBytes (numC b).data.toList (numC a).data.toList = q at *
 generalize atoiV (numD a) = x at *
 generalize atoiV (numD b) = y at *
 by_cases a1:x < y
 ·have e1:Lib.compareInt x y = -1:=by unfold Lib.compareInt; rw [if_pos a1]
  have e2:Lib.compareInt y x = 1:=by unfold Lib.compareInt; rw [if_neg (show ¬ y < x by omega),if_pos (show y > x by omega)]
  rw [e1,e2,if_neg (by decide),if_neg (by decide)]
  decide
 ·by_cases a2:x > y
  ·have e1:Lib.compareInt x y = 1:=by unfold Lib.compareInt; rw [if_neg a1,if_pos a2]
   have e2:Lib.compareInt y x = -1:=by unfold Lib.compareInt; rw [if_pos (show y < x by omega)]
   rw [e1,e2,if_neg (by decide),if_neg (by decide)]
   decide
  ·have e1:Lib.compareInt x y = 0:=by unfold Lib.compareInt; rw [if_neg a1,if_neg a2]
   have e2:Lib.compareInt y x = 0:=by unfold Lib.compareInt; rw [if_neg (show ¬ y < x by omega),if_neg (show ¬ y > x by omega)]
   rw [e1,e2,if_pos rfl,if_pos rfl]
   exact ht
def rsE:Option ByteArray → List ByteArray → Int
 | _,[]=>0
 | p,x :: l=>if numB x = true then (match p with
  | none=>rsE (some x) l
  | some q=>if 0 ≤ cmpN q x then 7 else rsE (some x) l) else 5
theorem rsE_ok:∀ (l:List ByteArray) (p:Option ByteArray),(∀ x ∈ l,numB x = true) → (∀ i (h:i + 1 < l.length),0 < cmpN l[i + 1] l[i]) → (∀ q,p = some q → ∀ (h:0 < l.length),0 < cmpN l[0] q) → rsE p l = 0
 | [],_,_,_,_=>rfl
 | x :: l,p,h1,h2,h3=>by
  unfold rsE
  rw [if_pos (h1 x (List.mem_cons_self ..))]
  have ih:=rsE_ok l (some x) (fun y hy=>h1 y (List.mem_cons_of_mem _ hy)) (fun i h=>h2 (i + 1) (by simpa using h)) (fun q hq h=>by
   injection hq with hq
   subst hq
   exact h2 0 (by simp; omega))
  cases p with
  | none=>exact ih
  | some q=>
   have:=(cmpN_anti q x).2 (h3 q rfl (by simp))
   show (if 0 ≤ cmpN q x then 7 else rsE (some x) l) = 0
   rw [if_neg (by omega)]
   exact ih
theorem rsE_bad:∀ (l:List ByteArray) (p:Option ByteArray),(∀ x ∈ l,numB x = true) → (∃ i,∃ (h:i + 1 < l.length),¬ 0 < cmpN l[i + 1] l[i]) → rsE p l = 7
 | [],_,_,⟨i,h,_⟩=>by simp at h
 | [x],p,_,⟨i,h,_⟩=>by simp at h
 | x :: y :: l,p,h1,⟨i,h,h2⟩=>by
  unfold rsE
  rw [if_pos (h1 x (List.mem_cons_self ..))]
  have hy:rsE (some x) (y :: l) = 7:=by
   cases i with
   | zero=>
    have h2:¬ 0 < cmpN y x:=h2
    unfold rsE
    rw [if_pos (h1 y (List.mem_cons_of_mem _ (List.mem_cons_self ..)))]
    show (if 0 ≤ cmpN x y then 7 else _) = 7
    rw [if_pos]
    have:¬ cmpN x y < 0:=fun h=>h2 ((cmpN_anti x y).1 h)
    omega
   | succ i=>exact rsE_bad (y :: l) (some x) (fun z hz=>h1 z (List.mem_cons_of_mem _ hz)) ⟨i,by simpa using h,h2⟩
  cases p with
  | none=>exact hy
  | some q=>
   show (if 0 ≤ cmpN q x then 7 else rsE (some x) (y :: l)) = 7
   split
   ·rfl
   ·exact hy
theorem nbE_rs {t:ByteArray} {xs:List Scene} (hc:chkE ⟨t,xs⟩ = 0) (hl:xs.length ≤ 500) (hp:∀ x ∈ xs,x.paras.length ≤ 61) :
  nbE xs = if noneN xs = xs.length then rsE none ((nbS xs).map (·.no)) else if 0 < noneN xs then 5 else rsE none (xs.map (·.no)):=by
 have hOK:=chkE_ok hc
 by_cases h0:noneN xs = xs.length
 ·have hb:nbE xs = 0:=by unfold nbE; rw [if_pos h0]
  obtain ⟨_,h2,h3⟩:=nb_ok hc hb hl hp
  rw [if_pos h0,hb]
  symm
  refine rsE_ok _ none (fun x hx=>?_) (fun i hi=>?_) (fun q hq=>by cases hq)
  ·obtain ⟨y,hy,rfl⟩:=List.mem_map.1 hx
   exact h2 y hy
  ·rw [List.length_map] at hi
   rw [List.getElem_map,List.getElem_map]
   exact h3 i hi
 ·rw [if_neg h0]
  by_cases h1:0 < noneN xs
  ·rw [if_pos h1]; unfold nbE; rw [if_neg h0,if_pos h1]
  ·rw [if_neg h1]
   have hno:∀ y ∈ xs,¬ y.no = ⟨#[]⟩:=fun y hy hn=>h1 (by
    unfold noneN
    exact List.length_pos_of_mem (List.mem_filter.2 ⟨hy,decide_eq_true hn⟩))
   have hnb:∀ x ∈ xs.map (·.no),numB x = true:=fun x hx=>by
    obtain ⟨y,hy,rfl⟩:=List.mem_map.1 hx
    exact (LnOk.of hOK (y:=y) hy).ok.1.resolve_left (hno y hy)
   unfold nbE
   rw [if_neg h0,if_neg h1]
   have hat:∀ i (h:i + 1 < xs.length),noAt xs (i + 1) = (xs[i + 1]).no ∧ noAt xs i = (xs[i]).no:=fun i h=>by
    unfold noAt
    rw [List.getElem?_eq_getElem h,List.getElem?_eq_getElem (by omega:i < xs.length)]
    exact ⟨rfl,rfl⟩
   by_cases hr:∀ i (h:i + 1 < xs.length),0 < cmpN (xs[i + 1]).no (xs[i]).no
   ·rw [if_pos (risN_yes fun i hi=>by rw [(hat i hi).1,(hat i hi).2]; exact hr i hi)]
    symm
    refine rsE_ok _ none hnb (fun i hi=>?_) (fun q hq=>by cases hq)
    rw [List.length_map] at hi
    rw [List.getElem_map,List.getElem_map]
    exact hr i hi
   ·have ⟨i,hi,hn⟩:∃ i,∃ (h:i + 1 < xs.length),¬ 0 < cmpN (xs[i + 1]).no (xs[i]).no:=by
     apply Classical.byContradiction
     intro hno
     exact hr fun i h=>Classical.byContradiction fun hn=>hno ⟨i,h,hn⟩
    rw [if_neg (by rw [risN_no hi (by rw [(hat i hi).1,(hat i hi).2]; exact hn)]; decide)]
    symm
    exact rsE_bad _ none hnb ⟨i,by rw [List.length_map]; exact hi,by rw [List.getElem_map,List.getElem_map]; exact hn⟩
end
section
open Go.RowKit Go.Sort
theorem rsE_no {p:Option ByteArray} {x:ByteArray} {l:List ByteArray} (h:numB x = false):rsE p (x :: l) = 5:=by
 show (if numB x = true then _ else (5:Int)) = 5
 rw [if_neg (by rw [h]; decide)]
theorem rsE_some {q x:ByteArray} {l:List ByteArray} (h:numB x = true):rsE (some q) (x :: l) = if 0 ≤ cmpN q x then 7 else rsE (some x) l:=by
 show (if numB x = true then _ else (5:Int)) = _
 rw [if_pos h]
theorem rsE_none {x:ByteArray} {l:List ByteArray} (h:numB x = true):rsE none (x :: l) = rsE (some x) l:=by
 show (if numB x = true then _ else (5:Int)) = _
 rw [if_pos h]
theorem rsE_nil (p:Option ByteArray):rsE p [] = 0:=by cases p <;> rfl
def prevT (l:List ByteArray) (k:Nat):Option ByteArray:=if k = 0 then none else l[k - 1]?
set_option maxRecDepth 100000 in
set_option maxHeartbeats 4000000 in
theorem rising_c {F:Nat → Prop} (l:List ByteArray) (v:Value) (w:World) (h:Sli strR w F l v) (hF:∀ q,F q → q < w.heap.size) (hz:∀ x ∈ l,x.size ≤ 10000) (he:ErrsLaid w) (hl:l.length ≤ 1000) :
  Calls Tryz.prog 23 #[v] w (fun e w'=>e = .returned (.int .i64 (rsE none l)) ∧ Below w.heap.size w w'):=by
 obtain ⟨A,c,rfl,hlc,hcm⟩:=h.form
 obtain ⟨n,hn⟩:∃ n,l.length = n:=⟨_,rfl⟩
 have HN:=Lib.hid hn
 have HS:=Lib.hid (fun (W:World) (hb:Below w.heap.size w W)=>And.intro (h.below hb hF) (he.below hb (Nat.le_refl _)))
 have HZ:=Lib.hid hz
 rw [hn] at HS hlc hl ⊢
 clear h hF hz he hn
 go_enter Tryz.func23,Tryz.ntmps23
 go_upto_region 2 with (fail)
 go_loopw [7] (fun s7 wr=>∃ k:Nat,k ≤ n ∧ s7 = .int .i64 k ∧ Hid (rsE none l = rsE (prevT l k) (l.drop k)) ∧ Hid (Below w.heap.size w wr)) (fun s7 _=>n - (intOf s7).toNat)
 case atStart=>exact ⟨0,Nat.zero_le _,rfl,Lib.hid rfl,Lib.hid (Below.refl _ _)⟩
 case round=>
  obtain ⟨k,hk,rfl,HR,HB⟩:=hrel
  by_cases hlt:k < n
  ·have hkl:k < l.length:=by rw [HN.out]; exact hlt
   have hdr:l.drop k = l[k] :: l.drop (k + 1):=List.drop_eq_getElem_cons hkl
   obtain ⟨o,f,eA,hfb,c0⟩:=(HS.out wr HB.out).1.txt k hkl
   have hxz:=HZ.out _ (List.getElem_mem hkl)
   have HPN:=Lib.hid (show prevT l (k + 1) = some l[k] by unfold prevT; rw [if_neg (by omega),Nat.add_sub_cancel,List.getElem?_eq_getElem hkl])
   have HPV:=Lib.hid (fun (h0:0 < k)=>show ∃ q:ByteArray,prevT l k = some q ∧ q.size ≤ 10000 ∧ ∀ W,Below w.heap.size w W → W.cell? ⟨o,f + (k - 1),none⟩ = some (.string q) from by
    have hk1:k - 1 < l.length:=by omega
    refine ⟨l[k - 1],by unfold prevT; rw [if_neg (by omega),List.getElem?_eq_getElem hk1],HZ.out _ (List.getElem_mem hk1),fun W hW=>?_⟩
    obtain ⟨o',f',eA',_,q⟩:=(HS.out W hW).1.txt (k - 1) hk1
    rw [eA] at eA'
    cases eA'
    exact q)
   rw [hdr] at HR
   subst eA
   generalize l[k] = x at *
   have HNU:=Lib.hid (NumberOf_c x wr (by omega))
   clear hkl hdr hfb
   go_wp2_with fail
   refine HNU.out.mono ?_
   rintro e w2 ⟨rfl,hb2⟩
   have HB2:=Lib.hid (HB.out.trans (hb2.mono HB.out.size))
   clear hb2 c0 HB HNU
   cases hnb:numB x with
   | false=>
    have HX:=Lib.hid (show rsE none l = 5 by rw [HR.out,rsE_no hnb])
    go_wp2
    go_ret
    exact ⟨ret_int HX.out.symm,HB2.out⟩
   | true=>
    by_cases k0:0 < k
    ·obtain ⟨q,hq,hqz,hqc⟩:=HPV.out k0
     have c1:=hqc w2 HB2.out
     have HNO:=Lib.hid (NumbersOrder_c q x w2 hqz hxz (HS.out w2 HB2.out).2)
     have HC:=Lib.hid (show rsE none l = if 0 ≤ cmpN q x then 7 else rsE (some x) (l.drop (k + 1)) by rw [HR.out,hq,rsE_some hnb])
     generalize cmpN q x = z at *
     have k01:(0:Int) < (k:Int):=by omega
     have hw1:IntKind.i64.wrap ((k:Int) - 1) = (k:Int) - 1:=by rw [IntKind.wrap_i64]; omega
     have hw2:(0:Int) ≤ (k:Int) - 1:=by omega
     have hw3:((k:Int) - 1).toNat = k - 1:=by omega
     have hw4:(k:Int) - 1 < (n:Int):=by omega
     clear HPV hqc hq HR
     go_wp2_with fail
     refine HNO.out.mono ?_
     rintro e w3 ⟨rfl,hb3⟩
     have HB3:=Lib.hid (HB2.out.trans (hb3.mono HB2.out.size))
     clear hb3 c1 HNO
     by_cases hz0:0 ≤ z
     ·have HX:=Lib.hid (show rsE none l = 7 by rw [HC.out,if_pos hz0])
      go_wp2
      go_ret
      exact ⟨ret_int HX.out.symm,HB3.out⟩
     ·have HX:=Lib.hid (show rsE none l = rsE (prevT l (k + 1)) (l.drop (k + 1)) by rw [HC.out,if_neg hz0,HPN.out])
      go_wp2
      go_roundw
      case rel=>exact ⟨k + 1,by omega,intNum,HX,HB3⟩
      case measure=>simp [intOf]; omega
    ·have k01:¬ (0:Int) < (k:Int):=by omega
     have HX:=Lib.hid (show rsE none l = rsE (prevT l (k + 1)) (l.drop (k + 1)) by
      rw [HR.out,show prevT l k = none by unfold prevT; rw [if_pos (by omega)]]
      rw [rsE_none hnb,HPN.out])
     clear HPV
     go_wp2
     go_roundw
     case rel=>exact ⟨k + 1,by omega,intNum,HX,HB2⟩
     case measure=>simp [intOf]; omega
  ·have hkn:k = n:=by omega
   subst hkn
   have HX:=Lib.hid (show rsE none l = 0 by rw [HR.out,List.drop_of_length_le (by rw [HN.out]; exact Nat.le_refl _),rsE_nil])
   go_wp2
   go_ret
   exact ⟨ret_int HX.out.symm,HB.out⟩
end
end Go.Proofs.YtaoobkgepcikiaaGreatDoor
