/- Texts packed: StoryB, NmA. -/
import Derived.Test.YtaoobkgepcikiaaGreatDoorSc11
import Derived.Test.YtaoobkgepcikiaaGreatDoorSc01
import Derived.Deep.RegionLaw
import Derived.Test.YtaoobkgepcikiaaGreatDoorSc04
import Derived.Test.YtaoobkgepcikiaaGreatDoorSc02
import Derived.Deep.DeepCutAuto
namespace Go.Proofs.YtaoobkgepcikiaaGreatDoor
set_option linter.unusedVariables false
section
open Go.RowKit Go.Sort
theorem results_cell1 {fn:Func} {p:Tmp} {ty:TypeId} (h:fn.results = #[.cell p ty]) (tmps:Array Value) (P:Program) (w:World):(results fn tmps).run P w = ((asAddr (tmps.getD p undef)).run P w).andThen fun a w₁=>(loadVar ty a).run P w₁:=by
 simp only [results,h]
 simp [Sem.run_bind,Result.andThen]
def setList:List ByteArray:=[⟨#[72,65,76,76]⟩,⟨#[77,73,76,76]⟩,⟨#[66,65,82,78,32,47,32,76,79,70,84]⟩]
set_option maxHeartbeats 400000 in
theorem Sets_c (w:World):Calls Tryz.prog 69 #[] w (fun e w'=>e = .returned (.slice (some ⟨w.heap.size,0,none⟩) 3 3) ∧ w' = w.alloc (.cells (setList.map Value.string).toArray 9)):=by
 go_enter Tryz.func69,Tryz.ntmps69
 go_wp2
 go_ret
 exact ⟨rfl,rfl⟩
def scCs (no:ByteArray) (p:Int) (s:ByteArray) (t:Int) (v:Value):Array Value:=#[.string no,.int .i64 p,.string s,.int .i64 t,v]
def isScene (w:World) (v:Value) (w':World):Prop:=∃ (s:Scene) (pv:Value),v = .agg (scCs s.no s.place s.set s.time pv) ∧ Sli paraR w' (fun q=>w.heap.size ≤ q ∧ q < w'.heap.size) s.paras pv ∧ sceneBd s
def isSceneR (w:World) (v:Value) (w':World):Prop:=∃ (s:Scene) (pv:Value),v = .agg (scCs s.no s.place s.set s.time pv) ∧ Sli paraR w' (fun q=>w.heap.size ≤ q ∧ q < w'.heap.size) s.paras pv ∧ sceneBd s ∧ (1 ≤ s.place ∧ s.place ≤ 3) ∧ (1 ≤ s.time ∧ s.time ≤ 5)
theorem paraFlat {w w':World} {F F':Nat → Prop} {x:Para} {cs:List Value} (h:paraR.rel w F x cs):paraR.rel w' F' x cs:=h
theorem paraOne (w:World) (F:Nat → Prop) (y:Para) (cs:List Value) (h:paraR.rel w F y cs):∀ u ∈ cs,u.oneCell' = true:=by
 have e:cs = Para.cells y:=h
 subst e
 exact oneC rfl
set_option maxRecDepth 100000 in
set_option maxHeartbeats 6000000 in
theorem SceneR_c (sb:Nat) (k0:Int) (w:World) (hs:Str w sb k0) (hk0:k0 ≤ 3300000000000000000) :
  Calls Tryz.prog 30 #[.pointer (some ⟨sb,0,none⟩)] w (Took sb k0 60100 (isSceneR w) w):=by
 have S0:=Lib.hid hs
 have hsb:=hs.lt
 clear hs
 obtain ⟨i0,hi0,hz0,hz1,hz2⟩:=info_parts (show (Tryz.prog.info? 78).map (fun i=>(i.zero,i.size,i.bytes)) = some (some (.agg #[.int .i64 0,.string ⟨#[]⟩]),2,24) by kernel_rfl)
 have G0:=Lib.hid ((GS.start (R:=paraR) (e:=78) S0.out).new (scCs ⟨#[]⟩ 0 ⟨#[]⟩ 0 (.slice none 0 0)) 46)
 go_enter Tryz.func30,Tryz.ntmps30
 go_wp2_with fail
 refine (range_c sb k0 1 3 _ G0.out.str (by omega) (by decide) (by decide) (by decide)).mono ?_
 rintro e w1 ⟨v1,n1,rfl,⟨y1,⟨hy1,hy1'⟩,rfl⟩,hn1,hs1,hg1⟩
 have G1:=Lib.hid (G0.out.turn hg1 hs1)
 clear hs1 hg1 G0 S0
 go_wp2_with fail
 refine (Sets_c _).mono ?_
 rintro e w2 ⟨rfl,rfl⟩
 go_wp2_with fail
 refine (oneL w1 setList _ _ _ _ rfl rfl (by decide) (by decide) G1.out.str (by omega)).mono ?_
 rintro e w2 ⟨v2,n2,rfl,⟨x2,hx2,rfl⟩,hn2,hs2,hg2⟩
 have b2:x2.size ≤ 20:=oneOf (by decide +kernel) hx2
 have G2:=Lib.hid ((G1.out.alloc _).turn hg2 hs2)
 clear hs2 hg2 hx2 G1
 go_wp2_with fail
 refine (range_c sb n2 1 5 _ G2.out.str (by omega) (by decide) (by decide) (by decide)).mono ?_
 rintro e w3 ⟨v3,n3,rfl,⟨y3,⟨hy3,hy3'⟩,rfl⟩,hn3,hs3,hg3⟩
 have hG:=G2.out.turn hg3 hs3
 have hze:=hG.plt (p:=(w.heap.size,scCs ⟨#[]⟩ 0 ⟨#[]⟩ 0 (.slice none 0 0),46)) (by simp)
 dsimp only at hze
 have G3:=Lib.hid (hG.new (scCs ⟨#[]⟩ y1 x2 y3 (.slice none 0 0)) 46)
 clear hs3 hg3 G2 hG
 go_upto_region 2 with (fail)
 generalize hW:w3.alloc (.cells #[.string ⟨#[]⟩,.int .i64 y1,.string x2,.int .i64 y3,.slice none 0 0] 46) = wE
 have G4:=Lib.hid (show GS paraR 78 w sb [] (.slice none 0 0) [(w3.heap.size,scCs ⟨#[]⟩ y1 x2 y3 (.slice none 0 0),46),(w.heap.size,scCs ⟨#[]⟩ 0 ⟨#[]⟩ 0 (.slice none 0 0),46)] n3 wE by rw [← hW]; exact G3.out)
 generalize w3.heap.size = E0 at *
 clear G3 hW
 go_wp2_with fail
 refine (pickL wE [2,5,12] _ _ _ _ rfl rfl (by decide) (by decide) G4.out.str (by omega)).mono ?_
 rintro e w5 ⟨v5,n5,rfl,⟨y,hy,rfl⟩,hn5,hs5,hg5⟩
 have hyb:1 ≤ y ∧ y ≤ 12:=by simp at hy; omega
 have G5:=Lib.hid ((G4.out.alloc _).turn hg5 hs5)
 clear hs5 hg5 hy G4
 go_wp2_with fail
 refine (next_c sb n5 y _ G5.out.str (by omega) (by omega) (by omega)).mono ?_
 rintro e w6 ⟨v6,n6,rfl,⟨m6,hm0,hm1,rfl⟩,hn6,hs6,hg6⟩
 obtain ⟨m,rfl⟩:=Int.eq_ofNat_of_zero_le hm0
 have hm:m < 12:=by omega
 have G6:=Lib.hid (G5.out.turn hg6 hs6)
 clear hs6 hg6 G5 hm0 hm1
 go_wp2
 go_loopw [17] (fun i wr=>∃ (k:Nat) (l:List Para) (v:Value) (n:Int),k ≤ m ∧ i = .int .i64 k ∧ n ≤ k0 + 5 + 5000 * (k:Int) ∧ l.length ≤ 5 * k ∧ Hid (GS paraR 78 w sb l v [(E0,scCs ⟨#[]⟩ y1 x2 y3 v,46),(w.heap.size,scCs ⟨#[]⟩ 0 ⟨#[]⟩ 0 (.slice none 0 0),46)] n wr) ∧ Hid (∀ x ∈ l,paraBd x)) (fun i _=>m - (intOf i).toNat)
 case atStart=>exact ⟨0,[],_,n6,by omega,rfl,by omega,by simp,G6.out,fun x hx=>by cases hx⟩
 case round=>
  clear G6
  obtain ⟨k,l,v,n,hk,rfl,hn,hll,HG,HX⟩:=hrel
  obtain ⟨A5,c5,hv,hc51,hc52⟩:=(HG.out.own.sli (F:=fun _=>True) (fun _ _ _=>trivial) (fun _ _=>trivial)).form
  clear hc51 hc52
  generalize l.length = L5 at hv
  subst hv
  by_cases hlt:k < m
  ·go_upto_region 4 with (fail)
   have c4:wr.cell? ⟨E0,4,none⟩ = some (.slice A5 L5 c5):=(HG.out.cell (p:=(E0,scCs ⟨#[]⟩ y1 x2 y3 (.slice A5 L5 c5),46)) (by simp)).1 4
   have hz:=HG.out.size
   go_region_law (first
    | (go_simp; go_at_call 71; refine (paras_c sb n _ HG.out.str.drew (by omega)).mono ?_; rintro e w7 ⟨v7,n7,rfl,⟨l2,hl2,hl5,hl0,hx2⟩,hn7,hs7,hg7⟩; have G7:=HG.out.drew.turn hg7 hs7; have c7:w7.cell? ⟨E0,4,none⟩ = some (.slice A5 L5 c5):=(G7.cell (p:=(E0,scCs ⟨#[]⟩ y1 x2 y3 (.slice A5 L5 c5),46)) (by simp)).1 4; have hz7:=hg7.size)
    | (refine step_app rfl _ _ _ rfl w.heap.size w.heap.size 78 i0 _ 24 Tryz.underlying44 hi0 hz0 hz1 hz2 rfl (by decide) _ (.slice A5 L5 c5) l rfl G7.own l2 v7 rfl (G7.from_ (b0:=wr.heap.size) (fun g hg=>(HG.out.own.block g hg).2) HG.out.size hl2) paraOne hl0 (by simp [maxLen]; omega) (by omega) G7.size ?_; intro g cap w8 hown8 hg8 hat8 hlt8; have G8:=G7.more hown8 hg8 rfl hat8; have c8:w8.cell? ⟨E0,4,none⟩ = some (.slice A5 L5 c5):=(G8.cell (p:=(E0,scCs ⟨#[]⟩ y1 x2 y3 (.slice A5 L5 c5),46)) (by simp)).1 4; have f8:w8.frozen? ⟨E0,4,none⟩ = false:=(G8.cell (p:=(E0,scCs ⟨#[]⟩ y1 x2 y3 (.slice A5 L5 c5),46)) (by simp)).2 4))
   all_goals
    have hEw:E0 ≠ w.heap.size:=by omega
    have G9:=Lib.hid (G8.set (i:=4) paraFlat (.slice (some ⟨g,0,none⟩) (l.length + l2.length) cap) (by simp; omega))
    go_wp2
    go_roundw
    case rel=>exact ⟨k + 1,l ++ l2,_,n7,by omega,intNum,by omega,by simp; omega,G9.out,fun x hx=>by
     rcases List.mem_append.1 hx with h | h
     ·exact HX.out x h
     ·exact hx2 x h⟩
    case measure=>simp [intOf]; omega
  ·have c0:=(HG.out.cell (p:=(E0,scCs ⟨#[]⟩ y1 x2 y3 (.slice A5 L5 c5),46)) (by simp)).1
   have e0:wr.cell? ⟨E0,0,none⟩ = some (.string ⟨#[]⟩):=c0 0
   have e1:wr.cell? ⟨E0,1,none⟩ = some (.int .i64 y1):=c0 1
   have e2:wr.cell? ⟨E0,2,none⟩ = some (.string x2):=c0 2
   have e3:wr.cell? ⟨E0,3,none⟩ = some (.int .i64 y3):=c0 3
   have e4:wr.cell? ⟨E0,4,none⟩ = some (.slice A5 L5 c5):=c0 4
   obtain ⟨d,f⟩:=HG.out.cell (p:=(w.heap.size,scCs ⟨#[]⟩ 0 ⟨#[]⟩ 0 (.slice none 0 0),46)) (by simp)
   have f0:wr.frozen? ⟨w.heap.size,0,none⟩ = false:=f 0
   have f1:wr.frozen? ⟨w.heap.size,1,none⟩ = false:=f 1
   have f2:wr.frozen? ⟨w.heap.size,2,none⟩ = false:=f 2
   have f3:wr.frozen? ⟨w.heap.size,3,none⟩ = false:=f 3
   have f4:wr.frozen? ⟨w.heap.size,4,none⟩ = false:=f 4
   have hEw:E0 ≠ w.heap.size:=by omega
   have d0:wr.cell? ⟨w.heap.size,0,none⟩ = some (.string ⟨#[]⟩):=d 0
   have d1:wr.cell? ⟨w.heap.size,1,none⟩ = some (.int .i64 0):=d 1
   have d2:wr.cell? ⟨w.heap.size,2,none⟩ = some (.string ⟨#[]⟩):=d 2
   have d3:wr.cell? ⟨w.heap.size,3,none⟩ = some (.int .i64 0):=d 3
   have d4:wr.cell? ⟨w.heap.size,4,none⟩ = some (.slice none 0 0):=d 4
   clear f c0 d
   have q:=HG.out.less (Q:=[(w.heap.size,scCs ⟨#[]⟩ 0 ⟨#[]⟩ 0 (.slice none 0 0),46)]) (by simp)
   have q0:=q.set (i:=0) paraFlat (.string ⟨#[]⟩) (by simp)
   have q1:=q0.set (i:=1) paraFlat (.int .i64 y1) (by simp)
   have q2:=q1.set (i:=2) paraFlat (.string x2) (by simp)
   have q3:=q2.set (i:=3) paraFlat (.int .i64 y3) (by simp)
   have q4:=Lib.hid (q3.set (i:=4) paraFlat (.slice A5 L5 c5) (by simp))
   clear q q0 q1 q2 q3
   go_wp2
   refine ⟨rfl,.agg (scCs ⟨#[]⟩ y1 x2 y3 (.slice A5 L5 c5)),(by rw [results_cell1 rfl]; go_simp; rfl),?_⟩
   refine ⟨_,n,rfl,⟨⟨⟨#[]⟩,y1,x2,y3,l⟩,.slice A5 L5 c5,rfl,q4.out.own.sli (fun q h1 h2=>⟨h1,h2⟩) (fun g hg=>q4.out.own.block g hg),?_,⟨hy1,hy1'⟩,⟨hy3,hy3'⟩⟩,by omega,q4.out.str,q4.out.gr⟩
   exact ⟨by show (0:Nat) ≤ 1000; omega,by dsimp only; omega,by dsimp only; omega,by dsimp only; omega,by dsimp only; omega,by dsimp only; omega,by dsimp only; omega,HX.out⟩
theorem Scene_c (sb:Nat) (k0:Int) (w:World) (hs:Str w sb k0) (hk0:k0 ≤ 3300000000000000000) :
  Calls Tryz.prog 30 #[.pointer (some ⟨sb,0,none⟩)] w (Took sb k0 60100 (isScene w) w):=
 (SceneR_c sb k0 w hs hk0).mono fun _ _ h=>
  have ⟨v,n,e,⟨s,pv,h1,h2,h3,_⟩,hr⟩:=h
  ⟨v,n,e,⟨s,pv,h1,h2,h3⟩,hr⟩
end
section
open Go.RowKit Go.Sort
def atoiV (s:ByteArray):Int:=match Lib.atoiAll s.data.toList with
 | .ok v=>v
 | .range=>Lib.atoiSat s.data.toList
 | _=>0
theorem atoi_e (s:ByteArray) (w:World) (hs:s.size ≤ 140737488355328) (hl:ErrsLaid w):Calls Tryz.prog 40 #[.string s] w (fun e w'=>∃ ev,e = .returned (.tuple #[.int .i64 (atoiV s),ev]) ∧ Below w.heap.size w w'):=by
 obtain ⟨⟨t1,p1,h1⟩,⟨t2,p2,h2⟩,_,_⟩:=hl
 unfold atoiV
 cases h:Lib.atoiAll s.data.toList
 case ok v=>
  refine (Any.strconv_Atoi_ok Tryz.laysC172 s (by omega) v h w).mono ?_
  rintro e w' ⟨he,hw⟩
  refine ⟨_,he,?_⟩
  rcases hw with rfl | ⟨t,rfl⟩
  ·exact Below.refl _ _
  ·exact Joins.below_bytesWorld _ _ _ _ (Nat.le_refl _)
 ·refine (Any.strconv_Atoi_syntax Tryz.laysC172 s (by omega) h _ w h1 (.inr ⟨_,_,rfl⟩)).mono ?_
  rintro e w' ⟨N,he,_,_,hb⟩
  exact ⟨_,he,hb⟩
 ·refine (Any.strconv_Atoi_range Tryz.laysC172 s (by omega) h _ w h2 (.inr ⟨_,_,rfl⟩)).mono ?_
  rintro e w' ⟨N,he,_,_,hb⟩
  exact ⟨_,he,hb⟩
def numD (s:ByteArray):ByteArray:=s.extract 0 (numK s)
def numC (s:ByteArray):ByteArray:=s.extract (numK s) s.size
def cmpN (a b:ByteArray):Int:=orI [Lib.compareInt (atoiV (numD a)) (atoiV (numD b)),Lib.compareBytes (numC a).data.toList (numC b).data.toList]
theorem numD_size (s:ByteArray):(numD s).size ≤ s.size:=by
 have:=numK_le s
 unfold numD
 rw [ByteArray.size_extract]; omega
theorem numC_size (s:ByteArray):(numC s).size ≤ s.size:=by
 unfold numC
 rw [ByteArray.size_extract]; omega
def CmpP (z:Int) (w:World) (e:Ending) (w':World):Prop:=e = .returned (.int .i64 z) ∧ Below w.heap.size w w'
set_option maxRecDepth 100000 in
set_option maxHeartbeats 2000000 in
theorem NumbersOrder_c (a b:ByteArray) (w:World) (ha:a.size ≤ 10000) (hb:b.size ≤ 10000) (hl:ErrsLaid w):Calls Tryz.prog 43 #[.string a,.string b] w (CmpP (cmpN a b) w):=by
 have HL:=Lib.hid hl
 have z1:=numD_size a
 have z2:=numC_size a
 have z3:=numD_size b
 have z4:=numC_size b
 clear hl
 go_enter Tryz.func43,Tryz.ntmps43
 go_wp2_with fail
 refine (show Calls Tryz.prog 39 #[.string a] w (fun e w'=>e = .returned (.tuple #[.string (numD a),.string (numC a)]) ∧ Below w.heap.size w w') from halved_c a w (by omega)).mono ?_
 rintro e w1 ⟨rfl,hb1⟩
 have HB1:=Lib.hid hb1
 clear hb1
 go_wp2_with fail
 refine (show Calls Tryz.prog 39 #[.string b] w1 (fun e w'=>e = .returned (.tuple #[.string (numD b),.string (numC b)]) ∧ Below w1.heap.size w1 w') from halved_c b w1 (by omega)).mono ?_
 rintro e w2 ⟨rfl,hb2⟩
 have HB2:=Lib.hid (HB1.out.trans (hb2.mono HB1.out.size))
 clear hb2 HB1
 have HV:=Lib.hid (show cmpN a b = orI [Lib.compareInt (atoiV (numD a)) (atoiV (numD b)),Lib.compareBytes (numC a).data.toList (numC b).data.toList] from rfl)
 generalize numD a = a1 at *
 generalize numC a = a2 at *
 generalize numD b = b1 at *
 generalize numC b = b2 at *
 go_wp2_with fail
 refine (atoi_e a1 _ (by omega) (HL.out.below HB2.out (Nat.le_refl _))).mono ?_
 rintro e w3 ⟨v3,rfl,hb3⟩
 have HB3:=Lib.hid (HB2.out.trans (hb3.mono HB2.out.size))
 clear hb3 HB2
 go_wp2_with fail
 refine (atoi_e b1 _ (by omega) (HL.out.below HB3.out (Nat.le_refl _))).mono ?_
 rintro e w4 ⟨v4,rfl,hb4⟩
 have HB4:=Lib.hid (HB3.out.trans (hb4.mono HB3.out.size))
 clear hb4 HB3
 generalize atoiV a1 = n3 at *
 generalize atoiV b1 = n4 at *
 go_wp2_with fail
 have hcc:=Tryz.cmp_Compare_int n3 n4 w4
 with_reducible refine hcc.mono ?_
 clear hcc
 rintro e w5 ⟨rfl,rfl⟩
 go_wp2_with fail
 have hcc:=Tryz.strings_Compare a2 b2 w5
 with_reducible refine hcc.mono ?_
 clear hcc
 rintro e w6 ⟨rfl,rfl⟩
 have HV2:=Lib.hid (show cmpN a b = orI [Lib.compareInt n3 n4,Lib.compareBytes a2.data.toList b2.data.toList] from HV.out)
 clear HV
 generalize Lib.compareInt n3 n4 = p at *
 generalize hq:Lib.compareBytes _ _ = q at *
 clear hq
 go_wp2_with fail
 refine (orI_c (some ⟨w6.heap.size,0,none⟩) [p,q] 2 0 _ (Rs.more (Rs.new1 w6 [p,q] (.int .i64) _ _ (Nat.le_refl _)) (Nat.zero_le _) (by simp)) (by simp)).mono ?_
 rintro e w7 ⟨rfl,rfl⟩
 go_wp2
 go_ret
 exact ⟨by rw [HV2.out]; rfl,HB4.out.alloc HB4.out.size _⟩
def ParP (s:ByteArray) (w:World) (e:Ending) (w':World):Prop:=e = .returned (.agg #[.int .i64 (atoiV (numD s)),.string (numC s)]) ∧ Below w.heap.size w w'
set_option maxRecDepth 100000 in
set_option maxHeartbeats 2000000 in
theorem parse_c (s:ByteArray) (w:World) (hs:s.size ≤ 10000) (hl:ErrsLaid w):Calls Tryz.prog 94 #[.string s] w (ParP s w):=by
 have HL:=Lib.hid hl
 have HB:=Lib.hid ((Below.refl w.heap.size w).alloc (Nat.le_refl _) (.cells #[.int .i64 0,.string ⟨#[]⟩] 145))
 have HX:=Lib.hid (heap_alloc_new w (.cells #[.int .i64 0,.string ⟨#[]⟩] 145))
 clear hl
 go_enter Tryz.func94,Tryz.ntmps94
 go_upto_region 1 with (fail)
 generalize w.alloc (.cells #[.int .i64 0,.string ⟨#[]⟩] 145) = w1 at *
 go_wp2
 go_loopw [3] (fun iv wr=>∃ k:Nat,k ≤ s.size ∧ iv = .int .i64 k ∧ wr = w1 ∧ Hid (∀ x ∈ s.data.toList.take k,digB x = true)) (fun iv _=>s.size - (intOf iv).toNat)
 case atStart=>exact ⟨0,Nat.zero_le _,rfl,rfl,Lib.hid (fun x hx=>by simp at hx)⟩
 case round=>
  obtain ⟨k,hk,rfl,rfl,HK⟩:=hrel
  obtain ⟨d,hd1,hd2⟩:∃ d:Bool,(d = true → ∃ hlt:k < s.size,digB (s[k]'hlt) = true) ∧ (d = false → ∀ hlt:k < s.size,digB (s[k]'hlt) = false):=by
   by_cases hlt:k < s.size
   ·exact ⟨digB (s[k]'hlt),fun h=>⟨hlt,h⟩,fun h _=>h⟩
   ·exact ⟨false,(fun h=>by cases h),fun _ h=>absurd h hlt⟩
  have HD1:=Lib.hid hd1
  have HD2:=Lib.hid hd2
  clear hd1 hd2
  go_upto_region 2 with (fail)
  go_cut [21] (fun cv wx=>cv = .bool d ∧ wx = wr)
  case first=>
   by_cases hlt:k < s.size
   ·have hdd:digB (s[k]'hlt) = d:=by
     cases h:d with
     | true=>exact (HD1.out h).2
     | false=>exact HD2.out h hlt
    have hlt2:(k:Int) < (s.size:Int):=by omega
    by_cases c1:48 ≤ (s[k]'hlt).toNat
    ·by_cases c2:(s[k]'hlt).toNat ≤ 57
     ·have HDD:=Lib.hid (show d = true by rw [← hdd]; simp [digB,c1,c2])
      have c1':(48:Int) ≤ ((s[k]'hlt).toNat:Int):=by omega
      have c2':((s[k]'hlt).toNat:Int) ≤ 57:=by omega
      clear hdd
      go_wp2
      go_meet
      exact ⟨by rw [HDD.out],rfl⟩
     ·have HDD:=Lib.hid (show d = false by rw [← hdd]; simp [digB,c2])
      have c1':(48:Int) ≤ ((s[k]'hlt).toNat:Int):=by omega
      have c2':¬ ((s[k]'hlt).toNat:Int) ≤ 57:=by omega
      clear hdd
      go_wp2
      go_meet
      exact ⟨by rw [HDD.out],rfl⟩
    ·have HDD:=Lib.hid (show d = false by rw [← hdd]; simp [digB,c1])
     have c1':¬ (48:Int) ≤ ((s[k]'hlt).toNat:Int):=by omega
     clear hdd
     go_wp2
     go_meet
     exact ⟨by rw [HDD.out],rfl⟩
   ·have HDD:=Lib.hid (show d = false by
     cases h:d with
     | true=>exact absurd (HD1.out h).1 hlt
     | false=>rfl)
    have hlt2:decide ((k:Int) < (s.size:Int)) = false:=decide_eq_false (by omega)
    have hlt3:decide (k < s.size) = false:=decide_eq_false hlt
    go_wp2_with fail
    go_meet
    exact ⟨by rw [HDD.out],rfl⟩
  case rest=>
   obtain ⟨rfl,rfl⟩:=hcut
   cases hd:d with
   | true=>
    obtain ⟨hlt,hdg⟩:=HD1.out hd
    have HKN:=Lib.hid (allB_next hlt HK.out hdg)
    clear hdg HD1 HD2
    go_wp2
    go_roundw
    case rel=>exact ⟨k + 1,by omega,intNum,by first | rfl | trivial,HKN⟩
    case measure=>simp [intOf]; omega
   | false=>
    have hkk:=numK_eq HK.out hk (fun hlt=>HD2.out hd hlt)
    have HKK:=Lib.hid (show s.extract 0 k = numD s ∧ s.extract k s.size = numC s by unfold numD numC; rw [hkk]; exact ⟨rfl,rfl⟩)
    have z1:=numD_size s
    have hHE:=HL.out.below HB.out (Nat.le_refl _)
    have HAT:=Lib.hid (atoi_e (numD s) _ (by omega) hHE)
    have hk2:(k:Int) ≤ (s.size:Int):=by omega
    clear HD1 HD2 hkk HK hHE
    go_wp2_with fail
    rw [HKK.out.1]
    refine HAT.out.mono ?_
    rintro e w2 ⟨ev,rfl,hb2⟩
    have hx2:=(hb2.block w.heap.size (heap_lt HX.out)).trans HX.out
    obtain ⟨gx,fx⟩:=str_cells hx2
    have x0:w2.cell? ⟨w.heap.size,0,none⟩ = some (.int .i64 0):=gx 0
    have x1:w2.cell? ⟨w.heap.size,1,none⟩ = some (.string ⟨#[]⟩):=gx 1
    have f0:w2.frozen? ⟨w.heap.size,0,none⟩ = false:=fx 0
    have f1:w2.frozen? ⟨w.heap.size,1,none⟩ = false:=fx 1
    have HB2:=Lib.hid (HB.out.trans (hb2.mono HB.out.size))
    generalize hav:atoiV (numD s) = av at *
    have HAV:=Lib.hid hav
    clear hb2 hx2 gx fx HAT hav
    go_wp2
    refine ⟨rfl,.agg #[.int .i64 av,.string (s.extract k s.size)],(by rw [results_cell1 rfl]; go_simp),?_⟩
    exact ⟨by rw [HKK.out.2,HAV.out],belSet (belSet HB2.out (Nat.le_refl _) _) (Nat.le_refl _) _⟩
set_option maxRecDepth 100000 in
set_option maxHeartbeats 2000000 in
theorem compare_c (a b:ByteArray) (w:World) (ha:a.size ≤ 10000) (hb:b.size ≤ 10000) (hl:ErrsLaid w):Calls Tryz.prog 48 #[.string a,.string b] w (CmpP (cmpN a b) w):=by
 have HL:=Lib.hid hl
 clear hl
 go_enter Tryz.func48,Tryz.ntmps48
 go_wp2_with fail
 refine (parse_c a w ha HL.out).mono ?_
 rintro e w1 ⟨rfl,hb1⟩
 have HB1:=Lib.hid hb1
 clear hb1
 go_wp2_with fail
 refine (parse_c b w1 hb (HL.out.below HB1.out (Nat.le_refl _))).mono ?_
 rintro e w2 ⟨rfl,hb2⟩
 have HB2:=Lib.hid (HB1.out.trans (hb2.mono HB1.out.size))
 have HV:=Lib.hid (show cmpN a b = orI [Lib.compareInt (atoiV (numD a)) (atoiV (numD b)),Lib.compareBytes (numC a).data.toList (numC b).data.toList] from rfl)
 clear hb2 HB1
 generalize atoiV (numD a) = n3 at *
 generalize atoiV (numD b) = n4 at *
 generalize numC a = a2 at *
 generalize numC b = b2 at *
 have HZ:=Lib.hid (((Below.refl w2.heap.size w2).alloc (Nat.le_refl _) (.cells #[.int .i64 n3,.string a2] 145)).alloc (by simp) (.cells #[.int .i64 n4,.string b2] 145))
 have y:=(str_cells ((Below.heap_alloc (w2.alloc (.cells #[.int .i64 n3,.string a2] 145)) (.cells #[.int .i64 n4,.string b2] 145) w2.heap.size (by simp)).trans (heap_alloc_new w2 (.cells #[.int .i64 n3,.string a2] 145)))).1
 have z:=(str_cells (heap_alloc_new (w2.alloc (.cells #[.int .i64 n3,.string a2] 145)) (.cells #[.int .i64 n4,.string b2] 145))).1
 rw [show (w2.alloc (.cells #[.int .i64 n3,.string a2] 145)).heap.size = w2.heap.size + 1 by simp] at z
 have HY:=Lib.hid y
 have HZZ:=Lib.hid z
 clear y z
 go_upto_region 2 with (fail)
 generalize (w2.alloc (.cells #[.int .i64 n3,.string a2] 145)).alloc (.cells #[.int .i64 n4,.string b2] 145) = w3 at *
 have y0:w3.cell? ⟨w2.heap.size,0,none⟩ = some (.int .i64 n3):=HY.out 0
 have y1:w3.cell? ⟨w2.heap.size,1,none⟩ = some (.string a2):=HY.out 1
 have z0:w3.cell? ⟨w2.heap.size + 1,0,none⟩ = some (.int .i64 n4):=HZZ.out 0
 have z1:w3.cell? ⟨w2.heap.size + 1,1,none⟩ = some (.string b2):=HZZ.out 1
 have HI1:=Lib.hid (fun W=>show Calls Tryz.prog 85 #[.int .i64 n3,.int .i64 n4] W (fun e w'=>e = .returned (.int .i64 (Lib.compareInt n3 n4)) ∧ w' = W) from Tryz.cmp_Compare_int n3 n4 W)
 have HI2:=Lib.hid (fun W=>show Calls Tryz.prog 86 #[.string a2,.string b2] W (fun e w'=>e = .returned (.int .i64 (Lib.compareBytes a2.data.toList b2.data.toList)) ∧ w' = W) from Tryz.strings_Compare a2 b2 W)
 clear HY HZZ
 refine wp_region_drewN_tail 10 (by kernel_rfl) (by kernel_rfl) ?_
 simp only [List.take_succ_cons,List.take_zero,List.drop_succ_cons,List.drop_zero]
 repeat (quiet_step ((first | (go_at_call 85; exact Calls.quiet_of_same (HI1.out _)) | (go_at_call 86; exact Calls.quiet_of_same (HI2.out _)))))
 refine wpQuiet_nil ?_
 intro wx hwx
 obtain ⟨nqx,hwx⟩:=hwx
 subst hwx
 generalize Lib.compareInt n3 n4 = p at *
 generalize Lib.compareBytes a2.data.toList b2.data.toList = q at *
 have HB3:=Lib.hid (HB2.out.trans ((below_drewN HZ.out nqx).mono HB2.out.size))
 generalize w3.drewN nqx = w4 at *
 clear y0 y1 z0 z1
 go_wp2_with fail
 refine (orI_c (some ⟨w4.heap.size,0,none⟩) [p,q] 2 0 _ (Rs.more (Rs.new1 w4 [p,q] (.int .i64) _ _ (Nat.le_refl _)) (Nat.zero_le _) (by simp)) (by simp)).mono ?_
 rintro e w7 ⟨rfl,rfl⟩
 go_wp2
 go_ret
 exact ⟨by rw [HV.out]; rfl,HB3.out.alloc HB3.out.size _⟩
end
end Go.Proofs.YtaoobkgepcikiaaGreatDoor
