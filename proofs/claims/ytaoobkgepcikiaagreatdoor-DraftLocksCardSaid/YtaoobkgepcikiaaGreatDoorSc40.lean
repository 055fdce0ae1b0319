/- Texts packed: SheD. -/
import Derived.Test.YtaoobkgepcikiaaGreatDoorSc39
import Derived.Deep.DeepCutAuto
namespace Go.Proofs.YtaoobkgepcikiaaGreatDoor
set_option linter.unusedVariables false
open Go.RowKit Go.Sort
section
variable {w wx:World} {o:Nat} {Qs:List PgL} {v v2:Value} {Rs:List Row} {X Y:List Pc}
theorem ShM.new (h:ShM w o Qs v Rs X wx) (cs:Array Value) (T:TypeId):ShM w o Qs v Rs ((wx.heap.size,cs,T) :: X) (wx.alloc (.cells cs T)):=
 ⟨(h.mr.new cs T).less fun q hq=>by
  simp only [List.mem_cons] at hq ⊢
  rcases hq with h | h | h <;> simp [h],fun x hx=>by
  have hb:=h.box.2.2
  rcases List.mem_cons.1 hx with rfl | hx
  ·dsimp only; omega
  ·exact h.ne x hx⟩
theorem ShM.less (h:ShM w o Qs v Rs X wx) (hq:∀ q ∈ Y,q ∈ X):ShM w o Qs v Rs Y wx:=
 ⟨h.mr.less fun q hq2=>by
  rcases List.mem_cons.1 hq2 with h | h
  ·simp [h]
  ·simp [hq q h],fun x hx=>h.ne x (hq x hx)⟩
theorem ShM.page (h:MR w ((31,Qs.map (·.2) ++ [.slice none 0 0],v2) :: (Qs.map rowP ++ Rs)) ((o,#[v],160) :: X) wx) (hne:∀ x ∈ X,x.1 ≠ o):ShM w o (Qs ++ [([],.slice none 0 0)]) v2 Rs X (wx.setCell ⟨o,0,none⟩ v2):=by
 have h2:=(h.set (i:=0) v2 hne).nil 9
 refine ⟨?_,hne⟩
 rw [show (Qs ++ [(([],.slice none 0 0):PgL)]).map (·.2) = Qs.map (·.2) ++ [.slice none 0 0] by simp,List.map_append (f:=rowP),List.append_assoc]
 exact MR.unpick (a:=(31,Qs.map (·.2) ++ [.slice none 0 0],v2) :: Qs.map rowP) (r:=rowP ([],.slice none 0 0)) (b:=Rs) h2
end
theorem made_sli (w:World) (n:Nat) (T:TypeId) (hn:n ≤ 1000):Sli strR (w.alloc (.cells (madeCells #[.string ⟨#[]⟩] n) T)) (fun q=>q = w.heap.size) (List.replicate n (⟨#[]⟩:ByteArray)) (.slice (some ⟨w.heap.size,0,none⟩) n n):=by
 refine ⟨some ⟨w.heap.size,0,none⟩,n,by rw [List.length_replicate],by rw [List.length_replicate]; exact Nat.le_refl _,by omega,fun h0=>⟨w.heap.size,0,List.replicate n (.string ⟨#[]⟩),rfl,rfl,⟨by show _ = _ * 1; rw [List.length_replicate,List.length_replicate,Nat.mul_one],fun k x hx=>?_⟩,fun j u hu=>?_⟩⟩
 ·have hk:=(List.getElem?_eq_some_iff.1 hx).1
  rw [List.length_replicate] at hk
  have hx2:x = ⟨#[]⟩:=List.eq_of_mem_replicate (List.mem_iff_getElem?.2 ⟨k,hx⟩)
  subst hx2
  show ((List.replicate n (Value.string ⟨#[]⟩)).drop (k * 1)).take 1 = [.string ⟨#[]⟩]
  rw [Nat.mul_one,List.drop_replicate,List.take_replicate,Nat.min_eq_left (by omega)]
  rfl
 ·have hj:=(List.getElem?_eq_some_iff.1 hu).1
  rw [List.length_replicate] at hj
  have hu2:u = .string ⟨#[]⟩:=List.eq_of_mem_replicate (List.mem_iff_getElem?.2 ⟨j,hu⟩)
  subst hu2
  have hc:=(str_cells (heap_alloc_new w (.cells (madeCells #[.string ⟨#[]⟩] n) T))).1 j
  rw [Nat.zero_add]
  refine hc.trans ?_
  simp [madeCells,hj,Nat.mod_one]
def stQ (q:PgQ):List (List ByteArray):=if q.2 = [] then q.1 else q.1 ++ [q.2]
theorem stQ_some {q:PgQ} (h:¬ q.2 = []):stQ q = q.1 ++ [q.2]:=if_neg h
theorem stQ_nil {q:PgQ} (h:q.2 = []):stQ q = q.1:=if_pos h
theorem split_last {Qs:List PgL} {A:List (List ByteArray)} {b:List ByteArray} (h:Qs.map (·.1) = A ++ [b]):∃ Ps pv,Qs = Ps ++ [(b,pv)] ∧ Ps.map (·.1) = A:=by
 obtain ⟨Ps,R,rfl,h1,h2⟩:=List.map_eq_append_iff.1 h
 obtain ⟨⟨b',pv⟩,R',rfl,h3,h4⟩:=List.map_eq_cons_iff.1 h2
 obtain rfl:R' = []:=List.map_eq_nil_iff.1 h4
 dsimp only at h3
 subst h3
 exact ⟨Ps,pv,rfl,h1⟩
def FilP (W0:World) (o:Nat) (Rs:List Row) (X:List Pc) (tp:Bool) (Q:List (List ByteArray)) (e:Ending) (w':World):Prop:=e = .returned (.bool tp) ∧ ∃ (Qs:List PgL) (v:Value),ShM W0 o Qs v Rs X w' ∧ Qs.map (·.1) = Q
set_option maxRecDepth 100000 in
set_option maxHeartbeats 16000000 in
theorem fill_c {W0:World} {F:Nat → Prop} (o:Nat) (Qs:List PgL) (v:Value) (Rs:List Row) (X:List Pc) (b:Blk) (A1:Option Addr) (c1:Nat) (A2:Option Addr) (n2 c2:Nat) (r:List Blk) (q:PgQ) (w:World) (h:ShM W0 o Qs v Rs X w) (hq:Qs.map (·.1) = stQ q) (hq0:q.2 = [] → q.1 = []) (hp54:q.2.length ≤ 54) (hgd:GoodB b) (hl:b.lines.length ≤ 1000000)
  (hln:Sli strR W0 F b.lines (.slice A1 b.lines.length c1)) (hkd:Sli boR W0 F b.kinds (.slice A2 n2 c2)) (hF:∀ q,F q → q < W0.heap.size) (hneed:needB b r ≤ 4000000) (hQl:Qs.length ≤ 500000000) (l0:ByteArray) (hl0:l0.size ≤ 100000000) (hname:b.kind = 3 → b.lines.head? = some l0 ∧ l0 ++ (⟨#[32,40,67,79,78,84,39,68,41]⟩:ByteArray) = contS b.name) :
  Calls Tryz.prog 118 #[.pointer (some ⟨o,0,none⟩),.agg (rbA b (.slice A1 b.lines.length c1) (.slice A2 n2 c2)),.int .i64 (needB b r:Int)] w (FilP W0 o Rs X (topB b r q.2) (stQ (putB b r q).1)):=by
 obtain ⟨i0,hi0,hz0,hz1,hz2⟩:=info_parts (show (Tryz.prog.info? 9).map (fun i=>(i.zero,i.size,i.bytes)) = some (some (.string ⟨#[]⟩),1,16) by kernel_rfl)
 obtain ⟨i1,hi1,hy0,hy1,hy2⟩:=info_parts (show (Tryz.prog.info? 31).map (fun i=>(i.zero,i.size,i.bytes)) = some (some (.slice none 0 0),1,24) by kernel_rfl)
 obtain ⟨n,hn⟩:∃ n,b.lines.length = n:=⟨_,rfl⟩
 obtain ⟨nd,hnd⟩:∃ nd,needB b r = nd:=⟨_,rfl⟩
 obtain ⟨gp,hgp⟩:∃ gp,b.gap = gp:=⟨_,rfl⟩
 obtain ⟨rk,hrk⟩:∃ rk,rkN b.kind = rk:=⟨_,rfl⟩
 have hgp2:1 ≤ gp ∧ gp ≤ 2:=by rw [← hgp]; unfold Blk.gap; split <;> omega
 have HGD:=Lib.hid hgd
 have hn1:1 ≤ n:=by rw [← hn]; exact hgd.pos
 have HK2:=Lib.hid (show (b.kind = 3 → (rk == 2) = true) ∧ (¬ b.kind = 3 → (rk == 2) = false) from ⟨fun h3=>by rw [← hrk,rkN_3 _ h3]; rfl,fun h3=>by
  rw [← hrk,beq_eq_false_iff_ne]
  unfold rkN
  split
  ·omega
  ·first | omega | (rw [if_neg h3]; omega)⟩)
 have HMB:=Lib.hid (fun (W:World) (hb:Below W0.heap.size W0 W) (f k:Nat) (hf:f ≤ k) (hk:k < b.lines.length)=>mayBreak_c b A1 c1 A2 n2 c2 f k W hf hk hl (hkd.below hb hF) (fun q hq=>Nat.lt_of_lt_of_le (hF q hq) hb.size) hgd.ks)
 have HGA:=Lib.hid (fun (W:World)=>rgap_c b (.slice A1 b.lines.length c1) (.slice A2 n2 c2) W)
 obtain ⟨bl,ol,rfl⟩:∃ bl ol,A1 = some ⟨bl,ol,none⟩:=by
  obtain ⟨A,cc,e,_,_,h3⟩:=hln
  injection e with e1
  subst e1
  obtain ⟨b',o',_,e,_⟩:=h3 hgd.pos
  exact ⟨b',o',e⟩
 have hnq:n ≤ c1 ∧ c1 ≤ 9223372036854775807:=by
  obtain ⟨A,cc,e,h1,h2,_⟩:=hln
  injection e with _ _ e3
  subst e3
  rw [hn] at h1
  exact ⟨h1,h2⟩
 rw [hn] at hln
 have HLN:=Lib.hid (fun (W:World) (hb:Below W0.heap.size W0 W)=>hln.below hb hF)
 have HNM:=Lib.hid hname
 have HQ:=Lib.hid hq
 have HQ0:=Lib.hid hq0
 have HTP:=Lib.hid (show topB b r q.2 = true ↔ q.2 = [] ∨ 54 < q.2.length + gp + nd by rw [putB_top,hgp,hnd])
 have HPU:=Lib.hid (show putB b r q = (fillB b (n + 1) 0 (if topB b r q.2 = true ∧ ¬ q.2 = [] then q.1 ++ [q.2] else q.1) (if topB b r q.2 = true then [] else q.2 ++ List.replicate gp ⟨#[]⟩),_) by rw [← hn,← hgp]; rfl)
 have HN:=Lib.hid hn
 have HGP:=Lib.hid hgp
 have HG0:=h.new (rbA b (.slice (some ⟨bl,ol,none⟩) b.lines.length c1) (.slice A2 n2 c2)) 162
 unfold rbA at HMB HGA HG0 ⊢
 rw [hn,hrk,hgp] at HGA
 rw [hn,hrk] at HG0 ⊢
 rw [hrk,hn] at HMB
 rw [hn] at hl
 rw [hnd] at hneed ⊢
 clear h hq hq0 hgd hln hkd hF hname hn hgp hrk hnd
 go_enter Tryz.func118,Tryz.ntmps118
 go_upto_region 1 with (fail)
 generalize w.alloc (.cells #[.int .i64 rk,.slice (some ⟨bl,ol,none⟩) n c1,.slice A2 n2 c2] 162) = w1 at *
 generalize w.heap.size = B at *
 have HBC:=Lib.hid (fun (W:World) (Qs:List PgL) (v:Value) (h:ShM W0 o Qs v Rs ((B,#[.int .i64 rk,.slice (some ⟨bl,ol,none⟩) n c1,.slice A2 n2 c2],162) :: X) W)=>show (W.cell? ⟨B,0,none⟩ = some (.int .i64 rk) ∧ W.cell? ⟨B,1,none⟩ = some (.slice (some ⟨bl,ol,none⟩) n c1) ∧ W.cell? ⟨B,2,none⟩ = some (.slice A2 n2 c2)) ∧ B < W.heap.size from
  have y:=(h.mr.cell (p:=(B,#[.int .i64 rk,.slice (some ⟨bl,ol,none⟩) n c1,.slice A2 n2 c2],162)) (by simp)).1
  ⟨⟨y 0,y 1,y 2⟩,h.mr.plt (p:=(B,#[.int .i64 rk,.slice (some ⟨bl,ol,none⟩) n c1,.slice A2 n2 c2],162)) (by simp)⟩)
 have G0:=Lib.hid HG0
 clear HG0
 go_cut [7] (fun tv wx=>tv = .bool (topB b r q.2) ∧ Hid (ShM W0 o Qs v Rs ((B,#[.int .i64 rk,.slice (some ⟨bl,ol,none⟩) n c1,.slice A2 n2 c2],162) :: X) wx))
 case first=>
  by_cases hz:q.2 = []
  ·have hqn:Qs = []:=by
    have h1:=HQ.out
    rw [stQ_nil hz,HQ0.out hz] at h1
    exact List.map_eq_nil_iff.1 h1
   have HT:=Lib.hid (HTP.out.2 (.inl hz))
   subst hqn
   obtain ⟨Aq,cq,rfl⟩:=G0.out.form
   have cb:w1.cell? ⟨o,0,none⟩ = some (.slice Aq 0 cq):=G0.out.box.1
   clear hz
   go_region
   go_wp2
   go_meet
   exact ⟨by rw [HT.out],by first | exact G0 | exact Lib.hid G0.out.drew⟩
  ·obtain ⟨Ps,pv,rfl,hPs⟩:=split_last (HQ.out.trans (stQ_some hz))
   obtain ⟨⟨g,cg,rfl,_⟩,_⟩:=G0.out.last
   obtain ⟨cb,_,hob⟩:=G0.out.box
   obtain ⟨⟨d0,d1,d2⟩,hBl⟩:=HBC.out w1 _ _ G0.out
   have hPl:Ps.length ≤ 500000000:=by rw [List.length_append] at hQl; omega
   have HRE:=Lib.hid (fun (d:Nat) (os:Array Obj)=>room_c o Ps q.2 pv _ Rs _ (Sort.grow (redrawn w1 d) os) (G0.out.below (below_regrown w1 d os)) (by omega) (by omega))
   have s0:∀ (d:Nat) (os:Array Obj),(Sort.grow (redrawn w1 d) os).cell? ⟨o,0,none⟩ = some (.slice (some ⟨g,0,none⟩) (Ps.length + 1) cg):=fun d os=>((below_regrown w1 d os).cell hob).trans cb
   have s1:∀ (d:Nat) (os:Array Obj),(Sort.grow (redrawn w1 d) os).cell? ⟨B,0,none⟩ = some (.int .i64 rk):=fun d os=>((below_regrown w1 d os).cell hBl).trans d0
   have s2:∀ (d:Nat) (os:Array Obj),(Sort.grow (redrawn w1 d) os).cell? ⟨B,1,none⟩ = some (.slice (some ⟨bl,ol,none⟩) n c1):=fun d os=>((below_regrown w1 d os).cell hBl).trans d1
   have s3:∀ (d:Nat) (os:Array Obj),(Sort.grow (redrawn w1 d) os).cell? ⟨B,2,none⟩ = some (.slice A2 n2 c2):=fun d os=>((below_regrown w1 d os).cell hBl).trans d2
   have e0:((Ps.length:Int) + 1 == 0) = false:=by rw [beq_eq_false_iff_ne]; omega
   obtain ⟨m,hm⟩:∃ m,q.2.length = m:=⟨_,rfl⟩
   rw [hm] at HRE hp54 HTP
   clear hPs hm hQl
   by_cases ht:54 < m + gp + nd
   ·have ht2:(54:Int) - (m:Int) < (gp:Int) + (nd:Int):=by omega
    have HT:=Lib.hid (HTP.out.2 (.inr ht))
    refine wp_region_quiet_below (by kernel_rfl) (by kernel_rfl) ?_
    repeat (first | go_big_quiet_step ((first | (go_at_call 175; exact Calls.regrown_of (HRE.out _ _)) | (go_at_call 176; exact Calls.regrown_of (HGA.out _)))) | quiet_step ((first | (go_at_call 175; exact Calls.regrown_of (HRE.out _ _)) | (go_at_call 176; exact Calls.regrown_of (HGA.out _)))))
    refine wpQuiet_nil ?_
    intro wy hwy
    have hby:=below_of_regrown hwy
    clear hwy
    go_wp2
    go_meet
    exact ⟨by rw [HT.out],Lib.hid (G0.out.below hby)⟩
   ·have ht2:¬ (54:Int) - (m:Int) < (gp:Int) + (nd:Int):=by omega
    have HT:=Lib.hid (show topB b r q.2 = false by
     rw [← Bool.not_eq_true,HTP.out]
     exact fun h=>h.elim hz ht)
    refine wp_region_quiet_below (by kernel_rfl) (by kernel_rfl) ?_
    repeat (first | go_big_quiet_step ((first | (go_at_call 175; exact Calls.regrown_of (HRE.out _ _)) | (go_at_call 176; exact Calls.regrown_of (HGA.out _)))) | quiet_step ((first | (go_at_call 175; exact Calls.regrown_of (HRE.out _ _)) | (go_at_call 176; exact Calls.regrown_of (HGA.out _)))))
    refine wpQuiet_nil ?_
    intro wy hwy
    have hby:=below_of_regrown hwy
    clear hwy
    go_wp2
    go_meet
    exact ⟨by rw [HT.out],Lib.hid (G0.out.below hby)⟩
 case rest=>
  clear G0
  obtain ⟨rfl,G1⟩:=hcut
  go_upto_if 27 with (fail)
  go_cut [7,27] (fun tv _ wx=>tv = .bool (topB b r q.2) ∧ ∃ (P1:List PgL) (pg1:List ByteArray) (pv1 v1:Value),P1.map (·.1) = (if topB b r q.2 = true ∧ ¬ q.2 = [] then q.1 ++ [q.2] else q.1) ∧ pg1 = (if topB b r q.2 = true then [] else q.2 ++ List.replicate gp (⟨#[]⟩:ByteArray)) ∧ P1.length ≤ 500000000 ∧ Hid (ShM W0 o (P1 ++ [(pg1,pv1)]) v1 Rs ((B,#[.int .i64 rk,.slice (some ⟨bl,ol,none⟩) n c1,.slice A2 n2 c2],162) :: X) wx))
  case first=>
   by_cases htop:topB b r q.2 = true
   ·have HQS:=Lib.hid (show Qs.map (·.1) = (if topB b r q.2 = true ∧ ¬ q.2 = [] then q.1 ++ [q.2] else q.1) by
     rw [HQ.out]
     by_cases hz:q.2 = []
     ·rw [stQ_nil hz,if_neg (fun h=>h.2 hz)]
     ·rw [stQ_some hz,if_pos ⟨htop,hz⟩])
    have HT:=Lib.hid htop
    obtain ⟨Aq,cq,rfl⟩:=G1.out.form
    have cb:=G1.out.box.1
    have HML:=Lib.hid (show (Qs.map (·.2)).length = Qs.length from List.length_map ..)
    rw [htop]
    clear htop
    go_wp2_with (at_builtin; (refine wpList_mrPush rfl _ _ _ rfl 31 i1 _ 24 Tryz.underlying53 hi1 hy0 hy1 hy2 rfl _ (.slice Aq Qs.length cq) (Qs.map (·.2)) Qs.length HML.out rfl (G1.out.mr.alloc (.cells #[.slice none 0 0] 31)) (.slice none 0 0) rfl wc.heap.size _ _ (heap_alloc_new wc _) rfl (by unfold maxLen; omega) (by omega) ?_); intro g7 cap7 w7 H7; have d0:=(H7.cell (p:=(o,#[.slice Aq Qs.length cq],160)) (by simp)).1 0; have f0:=(H7.cell (p:=(o,#[.slice Aq Qs.length cq],160)) (by simp)).2 0)
    go_meet
    exact ⟨by rw [HT.out],Qs,[],_,_,HQS.out,by rw [if_pos HT.out],hQl,Lib.hid (ShM.page H7 G1.out.ne)⟩
   ·have htf:topB b r q.2 = false:=by simpa using htop
    have hz:¬ q.2 = []:=fun e=>htop (HTP.out.2 (.inl e))
    obtain ⟨Ps,pv,rfl,hPs⟩:=split_last (HQ.out.trans (stQ_some hz))
    have HT:=Lib.hid htop
    have HPS:=Lib.hid hPs
    have hPl:Ps.length ≤ 500000000:=by rw [List.length_append] at hQl; omega
    obtain ⟨⟨d0,d1,d2⟩,hBl⟩:=HBC.out wc _ _ G1.out
    rw [htf]
    clear htop htf hz hPs hQl
    go_wp2_with fail
    refine (HGA.out wc).mono ?_
    rintro e w3 ⟨rfl,hb3⟩
    have G3:=Lib.hid (G1.out.below hb3)
    have hmk:=run_make_row' (P:=Tryz.prog) 31 9 (.string ⟨#[]⟩) 16 Tryz.underlying31 (by kernel_rfl) rfl .i64 .i64 gp (by omega) (by omega) w3
    have HPT:=Lib.hid (put_c o Ps q.2 pv v Rs ((B,#[.int .i64 rk,.slice (some ⟨bl,ol,none⟩) n c1,.slice A2 n2 c2],162) :: X) (List.replicate gp ⟨#[]⟩) (some ⟨w3.heap.size,0,none⟩) gp gp (w3.alloc (.cells (madeCells #[.string ⟨#[]⟩] gp) 9)) (G3.out.alloc _) (made_sli w3 gp 9 (by omega)) (List.length_replicate ..) (by omega) (by omega))
    clear hb3 d0 d1 d2 hBl
    go_wp2_with fail
    refine HPT.out.mono ?_
    rintro e w4 ⟨rfl,pv4,G4⟩
    clear hmk HPT
    go_wp2
    go_meet
    exact ⟨by rw [show topB b r q.2 = false from by simpa using HT.out],Ps,q.2 ++ List.replicate gp ⟨#[]⟩,_,_,by rw [HPS.out,if_neg (fun h=>HT.out h.1)],by rw [if_neg HT.out],hPl,Lib.hid G4⟩
  case rest=>
   clear G1
   obtain ⟨rfl,P1,pg1,pv1,v1,hP1,hpg1,hP1l,G1⟩:=hcut
   have HFQ:=Lib.hid (show (putB b r q).1 = fillB b (n + 1) 0 (P1.map (·.1)) pg1 by rw [HPU.out,hP1,hpg1])
   have HRO:=Lib.hid (show RoomOk b 0 (54 - pg1.length) ∧ pg1.length ≤ 54 by
    rw [hpg1]
    by_cases ht:topB b r q.2 = true
    ·rw [if_pos ht]; exact ⟨room_top b,by decide⟩
    ·have htf:topB b r q.2 = false:=by simpa using ht
     have hno:¬ 54 < q.2.length + gp + nd:=fun h=>ht (HTP.out.2 (.inr h))
     have hrf:=room_first htf
     rw [if_neg ht]
     refine ⟨?_,by rw [List.length_append,List.length_replicate]; omega⟩
     rw [HGP.out] at hrf
     exact hrf)
   have hP1z:P1.length ≤ 500000000:=hP1l
   clear hP1 hpg1 hP1l
   obtain ⟨XX,hXX⟩:∃ XX:List Pc,(B,#[.int .i64 rk,.slice (some ⟨bl,ol,none⟩) n c1,.slice A2 n2 c2],162) :: X = XX:=⟨_,rfl⟩
   have HXX:=Lib.hid hXX
   rw [hXX] at HBC G1
   clear hXX
   obtain ⟨fq,hfq⟩:∃ fq,(putB b r q).1 = fq:=⟨_,rfl⟩
   have HFI:=Lib.hid hfq
   rw [hfq] at HFQ
   clear hfq
   obtain ⟨tp,htp⟩:∃ tp,topB b r q.2 = tp:=⟨_,rfl⟩
   have HTPE:=Lib.hid htp
   rw [htp]
   clear htp
   go_wp2
   go_loopw [8] (fun fv wr=>∃ (f:Nat) (P2:List PgL) (g2:List ByteArray) (pv2 v2:Value),fv = .int .i64 f ∧ f < n ∧ g2.length ≤ 54 ∧ P2.length ≤ 500000000 + f ∧ Hid (RoomOk b f (54 - g2.length)) ∧ Hid (∃ mm,n - f < mm ∧ fillB b mm f (P2.map (·.1)) g2 = fq) ∧ Hid (ShM W0 o (P2 ++ [(g2,pv2)]) v2 Rs XX wr)) (fun fv _=>n - (intOf fv).toNat)
   case atStart=>exact ⟨0,P1,pg1,_,_,rfl,hn1,HRO.out.2,by omega,Lib.hid HRO.out.1,Lib.hid ⟨n + 1,by omega,HFQ.out.symm⟩,G1⟩
   case round=>
    clear G1 HRO HFQ
    obtain ⟨f,P2,g2,pv2,v2,rfl,hf,hg54,hP2,HRM,HFB,HG⟩:=hrel
    obtain ⟨m2,hm2⟩:∃ m2,g2.length = m2:=⟨_,rfl⟩
    have HM2:=Lib.hid hm2
    obtain ⟨⟨d0,d1,d2⟩,hBl⟩:=HBC.out wr _ _ HG.out
    have HRE0:=Lib.hid (fun (W:World) (hW:ShM W0 o (P2 ++ [(g2,pv2)]) v2 Rs XX W)=>room_c o P2 g2 pv2 v2 Rs XX W hW (by omega) (by omega))
    have HRE:=Lib.hid (fun (d:Nat) (os:Array Obj)=>HRE0.out (Sort.grow (redrawn wr d) os) (HG.out.below (below_regrown wr d os)))
    have s1:∀ (d:Nat) (os:Array Obj),(Sort.grow (redrawn wr d) os).cell? ⟨B,1,none⟩ = some (.slice (some ⟨bl,ol,none⟩) n c1):=fun d os=>((below_regrown wr d os).cell hBl).trans d1
    rw [hm2] at HRE HRE0 hg54 HRM
    clear hm2
    have hbq:¬ c1 = f:=by omega
    by_cases hfit:n - f ≤ 54 - m2
    ·have hfi:(n:Int) - (f:Int) ≤ 54 - (m2:Int):=by omega
     go_upto_region 6 with (fail)
     refine wp_region_quiet_below (by kernel_rfl) (by kernel_rfl) ?_
     repeat (first | go_big_quiet_step ((go_at_call 175; exact Calls.regrown_of (HRE.out _ _))) | quiet_step ((go_at_call 175; exact Calls.regrown_of (HRE.out _ _))))
     refine wpQuiet_nil ?_
     intro wy hwy
     have hby:=below_of_regrown hwy
     clear hwy
     have G3:=Lib.hid (HG.out.below hby)
     have HSL:=Lib.hid (show Sli strR wy F (b.lines.drop f) (.slice (some ⟨bl,ol + f,none⟩) (n - f) (c1 - f)) by
      have hsl:=(HLN.out wy G3.out.mr.bel).drop_ f (by rw [HN.out]; omega) (n - f) (c1 - f) (by rw [HN.out]) rfl
      rw [show f * (Rep.n strR) = f from Nat.mul_one f] at hsl
      exact hsl)
     have HPT:=Lib.hid (put_c o P2 g2 pv2 v2 Rs XX (b.lines.drop f) (some ⟨bl,ol + f,none⟩) (n - f) (c1 - f) wy G3.out HSL.out (by rw [List.length_drop,HN.out]) (by rw [HM2.out]; omega) (by omega))
     obtain ⟨⟨d0',d1',d2'⟩,_⟩:=HBC.out wy _ _ G3.out
     have HEN:=Lib.hid (show stQ fq = (P2.map (·.1)) ++ [g2 ++ b.lines.drop f] by
      obtain ⟨mm,h1,h2⟩:=HFB.out
      obtain ⟨m',rfl⟩:∃ m',mm = m' + 1:=⟨mm - 1,by omega⟩
      rw [fillB_end (by rw [HN.out,HM2.out]; exact hfit)] at h2
      rw [← h2]
      refine stQ_some (fun e=>?_)
      have:=congrArg List.length e
      rw [List.length_append,List.length_drop,HN.out] at this
      simp at this
      omega)
     clear hby HG HRE HRE0 HSL s1 d0 d1 d2 HFB
     go_wp2_with fail
     refine HPT.out.mono ?_
     rintro e w5 ⟨rfl,pv5,G5⟩
     go_wp2
     go_ret
     refine ⟨by rw [HTPE.out]; rfl,_,_,G5.less (fun z hz=>by rw [← HXX.out]; exact List.mem_cons_of_mem _ hz),?_⟩
     rw [List.map_append,HFI.out,HEN.out]
     rfl
    ·have hfi:¬ (n:Int) - (f:Int) ≤ 54 - (m2:Int):=by omega
     have hfit':¬ b.lines.length - f ≤ 54 - m2:=by rw [HN.out]; exact hfit
     go_upto_region 6 with (fail)
     refine wp_region_quiet_below (by kernel_rfl) (by kernel_rfl) ?_
     repeat (first | go_big_quiet_step ((go_at_call 175; exact Calls.regrown_of (HRE.out _ _))) | quiet_step ((go_at_call 175; exact Calls.regrown_of (HRE.out _ _))))
     refine wpQuiet_nil ?_
     intro wy hwy
     have hby:=below_of_regrown hwy
     clear hwy
     have G3:=Lib.hid (HG.out.below hby)
     obtain ⟨⟨d0',d1',d2'⟩,_⟩:=HBC.out wy _ _ G3.out
     have htt:=stopB_brk HGD.out HRM.out hfit'
     rw [HN.out] at htt
     obtain ⟨mo,hmo⟩:∃ mo,(if b.kind = 3 then 1 else 0) = mo:=⟨_,rfl⟩
     have HMO:=Lib.hid hmo
     have hmo1:mo ≤ 1:=by rw [← hmo]; split <;> omega
     obtain ⟨K,hK⟩:∃ K,roomK b f (54 - m2) = K:=⟨_,rfl⟩
     have hKe:K = f + (54 - m2) - mo:=by rw [← hK,← hmo]; rfl
     have HKE:=Lib.hid (fun (i:Nat) (h1:i ≤ K) (h2:i ≤ n) (h3:K ≤ i ∨ n ≤ i)=>kR_end HGD.out HRM.out hfit' (by rw [hK]; exact h1) (by rw [HN.out]; exact h2) (by rw [hK,HN.out]; exact h3))
     have hfK:f ≤ K:=by
      rcases HRM.out with ⟨h0,_⟩ | ⟨h0,h⟩
      ·omega
      ·omega
     rw [hK] at htt
     obtain ⟨tt,htq⟩:∃ tt,stopB b f (54 - m2) = tt:=⟨_,rfl⟩
     have HTQ:=Lib.hid htq
     rw [htq] at htt HKE
     obtain ⟨t1,t2,t3,_,_⟩:=htt
     clear hby HG HRE s1 d0 d1 d2 hmo hK htq hfit'
     go_upto_if 59 with (fail)
     clear d0' d1' d2'
     go_cut [9] (fun mv wx=>mv = .int .i64 (mo:Int) ∧ Hid (ShM W0 o (P2 ++ [(g2,pv2)]) v2 Rs XX wx))
     case first=>
      by_cases h3:b.kind = 3
      ·have e2:=HK2.out.1 h3
       have HM1:=Lib.hid (show mo = 1 by rw [← HMO.out,if_pos h3])
       go_wp2
       go_meet
       exact ⟨by rw [HM1.out]; rfl,G3⟩
      ·have e2:=HK2.out.2 h3
       have HM1:=Lib.hid (show mo = 0 by rw [← HMO.out,if_neg h3])
       go_wp2
       go_meet
       exact ⟨by rw [HM1.out]; rfl,G3⟩
     case rest=>
      clear G3
      obtain ⟨rfl,G4⟩:=hcut
      go_wp2
      go_loopw [10,11] (fun kv iv wr=>∃ i:Nat,f ≤ i ∧ i ≤ n ∧ i ≤ K ∧ kv = .int .i64 (kR b f i) ∧ iv = .int .i64 i ∧ Hid (ShM W0 o (P2 ++ [(g2,pv2)]) v2 Rs XX wr)) (fun _ iv _=>n - (intOf iv).toNat)
      case atStart=>exact ⟨f,Nat.le_refl _,by omega,hfK,by rw [kR_start],rfl,G4⟩
      case round=>
       clear G4
       obtain ⟨i,hq1,hq2,hq3,rfl,rfl,HG4⟩:=hrel
       obtain ⟨⟨d0,d1,d2⟩,hBl4⟩:=HBC.out wr _ _ HG4.out
       go_upto_region 14 with (fail)
       go_cut [78] (fun cv wx=>cv = .bool (decide (i < n ∧ i + 1 ≤ K)) ∧ Hid (ShM W0 o (P2 ++ [(g2,pv2)]) v2 Rs XX wx))
       case first=>
        by_cases hin:i < n
        ·have hin2:(i:Int) < (n:Int):=by omega
         have HR:=Lib.hid (HRE0.out wr HG4.out)
         by_cases hrm:i + 1 ≤ K
         ·have HT:=Lib.hid (show decide (i < n ∧ i + 1 ≤ K) = true from decide_eq_true ⟨hin,hrm⟩)
          have hrm2:(i:Int) - (f:Int) + 1 + (mo:Int) ≤ 54 - (m2:Int):=by omega
          go_wp2_with fail
          refine HR.out.mono ?_
          rintro e w6 ⟨rfl,hb6⟩
          go_wp2
          go_meet
          exact ⟨by rw [HT.out],Lib.hid (HG4.out.below hb6)⟩
         ·have HT:=Lib.hid (show decide (i < n ∧ i + 1 ≤ K) = false from decide_eq_false fun h=>hrm h.2)
          have hrm2:¬ (i:Int) - (f:Int) + 1 + (mo:Int) ≤ 54 - (m2:Int):=by omega
          have HRD:=Lib.hid (decide_eq_false hrm2)
          go_wp2_with fail
          refine HR.out.mono ?_
          rintro e w6 ⟨rfl,hb6⟩
          go_wp2
          go_meet
          exact ⟨by rw [HT.out]; first | rfl | rw [HRD.out],Lib.hid (HG4.out.below hb6)⟩
        ·have hin2:decide ((i:Int) < (n:Int)) = false:=decide_eq_false (by omega)
         have hin3:decide (i < n) = false:=decide_eq_false hin
         have HT:=Lib.hid (show decide (i < n ∧ i + 1 ≤ K) = false from decide_eq_false fun h=>hin h.1)
         clear hin
         go_wp2_with fail
         go_meet
         exact ⟨by rw [HT.out],HG4⟩
       case rest=>
        clear HG4 d0 d1 d2 hBl4
        obtain ⟨rfl,G5⟩:=hcut
        obtain ⟨⟨d0,d1,d2⟩,hBl5⟩:=HBC.out wc _ _ G5.out
        by_cases hcc:i < n ∧ i + 1 ≤ K
        ·have HMC:=Lib.hid (HMB.out wc G5.out.mr.bel f i hq1 hcc.1)
         rw [decide_eq_true hcc]
         obtain ⟨hc1,hc2⟩:=hcc
         go_wp2_with fail
         refine HMC.out.mono ?_
         rintro e w7 ⟨rfl,hb7⟩
         have G7:=Lib.hid (G5.out.below hb7)
         clear hb7 HMC G5 d0 d1 d2 hBl5
         cases hbr:brk b f (i + 1) with
         | true=>
          have HKR:=Lib.hid (kR_yes hq1 hbr)
          go_wp2
          go_roundw
          case rel=>exact ⟨i + 1,by omega,by omega,by omega,by rw [HKR.out],intNum,G7⟩
          case measure=>simp [intOf]; omega
         | false=>
          have HKR:=Lib.hid (kR_no hbr)
          go_wp2
          go_roundw
          case rel=>exact ⟨i + 1,by omega,by omega,by omega,by rw [HKR.out],intNum,G7⟩
          case measure=>simp [intOf]; omega
        ·have hkr:=HKE.out i hq3 hq2 (by omega)
         rw [decide_eq_false hcc,hkr]
         clear hkr hcc
         have r1:IntKind.i64.wrap ((tt:Int) - 1 + 1) = (tt:Int):=by rw [show (tt:Int) - 1 + 1 = (tt:Int) by omega]; exact IntWalk.i64_in _ (by omega)
         have r2:IntKind.i64.wrap (tt:Int) = (tt:Int):=IntWalk.i64_in _ (by omega)
         have t5:(f:Int) ≤ (tt:Int):=by omega
         have t6:(tt:Int) ≤ (c1:Int):=by omega
         have HSL:=Lib.hid (show Sli strR wc F ((b.lines.drop f).take (tt - f)) (.slice (some ⟨bl,ol + f,none⟩) (tt - f) (c1 - f)) by
          have hsl:=((HLN.out wc G5.out.mr.bel).drop_ f (by rw [HN.out]; omega) (n - f) (c1 - f) (by rw [HN.out]) rfl).take_ (tt - f) (by rw [List.length_drop,HN.out]; omega)
          rw [show f * (Rep.n strR) = f from Nat.mul_one f] at hsl
          exact hsl)
         have HPT:=Lib.hid (put_c o P2 g2 pv2 v2 Rs XX ((b.lines.drop f).take (tt - f)) (some ⟨bl,ol + f,none⟩) (tt - f) (c1 - f) wc G5.out HSL.out (by rw [List.length_take,List.length_drop,HN.out]; omega) (by rw [HM2.out]; omega) (by omega))
         have HFB2:=Lib.hid (show ∃ mm,n - tt < mm ∧ fillB b mm tt (P2.map (·.1) ++ [g2 ++ (b.lines.drop f).take (tt - f) ++ (if b.kind = 3 then [moreS] else [])]) (if b.kind = 3 then [contS b.name] else []) = fq by
          obtain ⟨mm,h1,h2⟩:=HFB.out
          obtain ⟨m',rfl⟩:∃ m',mm = m' + 1:=⟨mm - 1,by omega⟩
          have h3:=fillB_more HGD.out (m:=m') (f:=f) (P:=P2.map (·.1)) (pg:=g2) (by rw [HM2.out]; exact HRM.out) (by rw [HN.out,HM2.out]; exact hfit)
          rw [HM2.out,HTQ.out] at h3
          exact ⟨m',by omega,h3.symm.trans h2⟩)
         have HRN:=Lib.hid (room_next (b:=b) (f:=tt) (by omega))
         have hg5:(g2 ++ (b.lines.drop f).take (tt - f)).length ≤ 999000:=by
          rw [List.length_append,List.length_take,List.length_drop,HM2.out]; omega
         clear HFB HRM HSL HM2 HTQ HKE
         generalize g2 ++ (b.lines.drop f).take (tt - f) = g5 at *
         go_wp2_with fail
         refine HPT.out.mono ?_
         rintro e w5 ⟨rfl,pv5,G5'⟩
         have G6:=Lib.hid G5'
         obtain ⟨⟨d0',d1',d2'⟩,_⟩:=HBC.out w5 _ _ G5'
         clear G5 G5' HPT d0 d1 d2 hBl5
         by_cases h3:b.kind = 3
         ·have e2:=HK2.out.1 h3
          rw [if_pos h3,if_pos h3] at HFB2
          rw [if_pos h3] at HRN
          obtain ⟨hh1,hh2⟩:=HNM.out h3
          have HMS:=Lib.hid (show blanks 20 ++ (⟨#[40,77,79,82,69,41]⟩:ByteArray) = moreS from rfl)
          have hz20:=blanks_size 20
          have HRP:=Lib.hid (rep_c 20 w5 (by decide))
          have hl00:b.lines[0]? = some l0:=by rw [← List.head?_eq_getElem?]; exact hh1
          have HL0:=Lib.hid (fun (W:World) (hb:Below W0.heap.size W0 W)=>show W.cell? ⟨bl,ol,none⟩ = some (.string l0) by
           obtain ⟨b',off',e,_,hc⟩:=strAt (HLN.out W hb) 0 (by rw [HN.out]; exact hn1)
           injection e with e
           injection e with e1 e2
           subst e1
           subst e2
           have hc':W.cell? ⟨bl,ol,none⟩ = _:=hc
           rw [hc']
           have:=List.getElem?_eq_getElem (l:=b.lines) (i:=0) (by rw [HN.out]; exact hn1)
           rw [this] at hl00
           injection hl00 with hl00
           rw [hl00])
          have HC0:=Lib.hid hh2
          clear hh1 hh2 hl00
          generalize blanks 20 = b20 at *
          go_wp2_with fail
          refine HRP.out.mono ?_
          rintro e w6 ⟨rfl,hb6⟩
          have G7:=Lib.hid (G6.out.below hb6)
          have HPT:=Lib.hid (put_c o P2 g5 pv5 v2 Rs XX [b20 ++ (⟨#[40,77,79,82,69,41]⟩:ByteArray)] (some ⟨w6.heap.size,0,none⟩) 1 1 (w6.alloc (.cells #[.string (b20 ++ (⟨#[40,77,79,82,69,41]⟩:ByteArray))] 9)) (G7.out.alloc _) ((Own.lit1 w6 9 (b20 ++ (⟨#[40,77,79,82,69,41]⟩:ByteArray))).sliF (F:=fun _=>True) (enc:=fun x:ByteArray=>[.string x]) (hn:=fun _=>rfl) (fun _ _=>trivial)) rfl (by omega) (by omega))
          have hx:¬ 9223372036854775807 < b20.size + (⟨#[40,77,79,82,69,41]⟩:ByteArray).size:=by
           have:(⟨#[40,77,79,82,69,41]⟩:ByteArray).size = 6:=rfl
           omega
          clear hb6 HRP G6 d0' d1' d2'
          go_wp2_with fail
          refine HPT.out.mono ?_
          rintro e w7 ⟨rfl,pv7,G8⟩
          rw [HMS.out] at G8
          obtain ⟨Aq,cq,rfl⟩:=G8.form
          have cb:=G8.box.1
          obtain ⟨ql,hql⟩:∃ ql,(P2 ++ [(g5 ++ [moreS],pv7)]).length = ql:=⟨_,rfl⟩
          have HML:=Lib.hid (show ((P2 ++ [(g5 ++ [moreS],pv7)]).map (·.2)).length = ql by rw [List.length_map]; exact hql)
          have hql2:ql ≤ 510000000:=by rw [← hql,List.length_append,List.length_singleton]; omega
          rw [hql] at G8 cb
          have G9:=Lib.hid G8
          clear HPT G7 G8 hql
          go_upto_region 22 with (at_builtin; (refine wpList_mrPush rfl _ _ _ rfl 31 i1 _ 24 Tryz.underlying53 hi1 hy0 hy1 hy2 rfl _ (.slice Aq ql cq) ((P2 ++ [(g5 ++ [moreS],pv7)]).map (·.2)) ql HML.out rfl (G9.out.mr.alloc (.cells #[.slice none 0 0] 31)) (.slice none 0 0) rfl w7.heap.size _ _ (heap_alloc_new w7 _) rfl (by unfold maxLen; omega) (by omega) ?_); intro g7 cap7 w8 H7; have k0:=(H7.cell (p:=(o,#[.slice Aq ql cq],160)) (by simp)).1 0; have f0:=(H7.cell (p:=(o,#[.slice Aq ql cq],160)) (by simp)).2 0)
          have GA:=Lib.hid (ShM.page H7 G9.out.ne)
          clear H7 k0 f0 cb G9
          generalize w8.setCell ⟨o,0,none⟩ (.slice (some ⟨g7,0,none⟩) (ql + 1) cap7) = w9 at *
          obtain ⟨⟨d0,d1,d2⟩,_⟩:=HBC.out w9 _ _ GA.out
          have k5:=HL0.out w9 GA.out.mr.bel
          have HPT:=Lib.hid (put_c o (P2 ++ [(g5 ++ [moreS],pv7)]) [] (.slice none 0 0) (.slice (some ⟨g7,0,none⟩) (ql + 1) cap7) Rs XX [l0 ++ (⟨#[32,40,67,79,78,84,39,68,41]⟩:ByteArray)] (some ⟨w9.heap.size,0,none⟩) 1 1 (w9.alloc (.cells #[.string (l0 ++ (⟨#[32,40,67,79,78,84,39,68,41]⟩:ByteArray))] 9)) (GA.out.alloc _) ((Own.lit1 w9 9 (l0 ++ (⟨#[32,40,67,79,78,84,39,68,41]⟩:ByteArray))).sliF (F:=fun _=>True) (enc:=fun x:ByteArray=>[.string x]) (hn:=fun _=>rfl) (fun _ _=>trivial)) rfl (by decide) (by rw [List.length_append,List.length_singleton]; omega))
          have hx2:¬ 9223372036854775807 < l0.size + (⟨#[32,40,67,79,78,84,39,68,41]⟩:ByteArray).size:=by
           have:(⟨#[32,40,67,79,78,84,39,68,41]⟩:ByteArray).size = 9:=rfl
           omega
          go_wp2_with fail
          refine HPT.out.mono ?_
          rintro e wA ⟨rfl,pvA,GB⟩
          have GC:=Lib.hid GB
          have HFB3:=Lib.hid (show ∃ mm,n - tt < mm ∧ fillB b mm tt ((P2 ++ [(g5 ++ [moreS],pv7)]).map (·.1)) [l0 ++ (⟨#[32,40,67,79,78,84,39,68,41]⟩:ByteArray)] = fq by
           rw [List.map_append,HC0.out]
           exact HFB2.out)
          have HRO3:=Lib.hid (show RoomOk b tt (54 - ([l0 ++ (⟨#[32,40,67,79,78,84,39,68,41]⟩:ByteArray)]).length) from HRN.out)
          clear HPT GA GB d0 d1 d2 k5 HFB2 HRN
          go_wp2
          go_roundw
          case rel=>exact ⟨tt,P2 ++ [(g5 ++ [moreS],pv7)],[l0 ++ (⟨#[32,40,67,79,78,84,39,68,41]⟩:ByteArray)],pvA,_,rfl,t3,by show 1 ≤ 54; omega,by rw [List.length_append,List.length_singleton]; omega,HRO3,HFB3,GC⟩
          case measure=>simp [intOf]; omega
         ·have e2:=HK2.out.2 h3
          rw [if_neg h3,if_neg h3,List.append_nil] at HFB2
          rw [if_neg h3] at HRN
          obtain ⟨Aq,cq,rfl⟩:=G6.out.form
          have cb:=G6.out.box.1
          obtain ⟨ql,hql⟩:∃ ql,(P2 ++ [(g5,pv5)]).length = ql:=⟨_,rfl⟩
          have HML:=Lib.hid (show ((P2 ++ [(g5,pv5)]).map (·.2)).length = ql by rw [List.length_map]; exact hql)
          have hql2:ql ≤ 510000000:=by rw [← hql,List.length_append,List.length_singleton]; omega
          rw [hql] at G6 cb
          clear hql
          go_upto_region 22 with (at_builtin; (refine wpList_mrPush rfl _ _ _ rfl 31 i1 _ 24 Tryz.underlying53 hi1 hy0 hy1 hy2 rfl _ (.slice Aq ql cq) ((P2 ++ [(g5,pv5)]).map (·.2)) ql HML.out rfl (G6.out.mr.alloc (.cells #[.slice none 0 0] 31)) (.slice none 0 0) rfl w5.heap.size _ _ (heap_alloc_new w5 _) rfl (by unfold maxLen; omega) (by omega) ?_); intro g7 cap7 w8 H7; have k0:=(H7.cell (p:=(o,#[.slice Aq ql cq],160)) (by simp)).1 0; have f0:=(H7.cell (p:=(o,#[.slice Aq ql cq],160)) (by simp)).2 0)
          have GA:=Lib.hid (ShM.page H7 G6.out.ne)
          clear H7 k0 f0 cb G6 d0' d1' d2'
          generalize w8.setCell ⟨o,0,none⟩ (.slice (some ⟨g7,0,none⟩) (ql + 1) cap7) = w9 at *
          obtain ⟨⟨d0,d1,d2⟩,_⟩:=HBC.out w9 _ _ GA.out
          have HFB3:=Lib.hid (show ∃ mm,n - tt < mm ∧ fillB b mm tt ((P2 ++ [(g5,pv5)]).map (·.1)) [] = fq by
           rw [List.map_append]
           exact HFB2.out)
          have HRO3:=Lib.hid (show RoomOk b tt (54 - ([]:List ByteArray).length) from HRN.out)
          clear HFB2 HRN
          go_wp2
          go_roundw
          case rel=>exact ⟨tt,P2 ++ [(g5,pv5)],[],_,_,rfl,t3,by show 0 ≤ 54; omega,by rw [List.length_append,List.length_singleton]; omega,HRO3,HFB3,GA⟩
          case measure=>simp [intOf]; omega
end Go.Proofs.YtaoobkgepcikiaaGreatDoor
