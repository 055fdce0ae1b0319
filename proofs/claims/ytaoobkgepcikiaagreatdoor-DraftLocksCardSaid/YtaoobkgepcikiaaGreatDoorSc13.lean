/- Texts packed: StoryC, CloneW, RdA. -/
import Derived.Test.YtaoobkgepcikiaaGreatDoorSc12
import Derived.Test.YtaoobkgepcikiaaGreatDoorSc01
import Derived.Test.YtaoobkgepcikiaaGreatDoorSc02
import Derived.Lib.SliceRun
import Derived.Lib.Walk
import Derived.Test.YtaoobkgepcikiaaGreatDoorSc08
import Derived.Test.YtaoobkgepcikiaaGreatDoorSc09
import Derived.Deep.QuietTactic
import Derived.BigQuiet
import Derived.Deep.DeepCutAuto
import Derived.RegionTactic
namespace Go.Proofs.YtaoobkgepcikiaaGreatDoor
set_option linter.unusedVariables false
section
open Go.RowKit Go.Sort
abbrev svR:Rep (Scene × Value):=Rep.flat 5 (fun x=>x.1.cells x.2) (fun _=>rfl)
theorem svFlat {w w':World} {F:Nat → Prop} {x:Scene × Value} {cs:List Value} (h:svR.rel w F x cs):svR.rel w' F x cs:=h
def xCs (t:ByteArray) (v:Value):Array Value:=#[.string t,v]
abbrev ScG (w:World) (sb:Nat) (l:List (Scene × Value)) (v:Value) (P:List (Nat × Array Value × TypeId)) (n:Int) (wx:World):Prop:=GSI svR paraR (fun x=>x.1.paras) (fun x=>x.2) 46 w sb l v P n wx
def isScript (w:World) (v:Value) (w':World):Prop:=∃ (x:Script) (l:List (Scene × Value)) (sv:Value),v = .agg (xCs x.title sv) ∧ x.scenes = l.map (·.1) ∧ Own svR w' w.heap.size w.heap.size 46 l sv ∧ (∀ y ∈ l,Sli paraR w' (InF w w' sv []) y.1.paras y.2) ∧ scriptBd x
theorem GSI.fresh {w wx wy:World} {sb:Nat} {l:List (Scene × Value)} {v:Value} {P:List (Nat × Array Value × TypeId)} {n:Int} {k:List Para} {u:Value} (h:ScG w sb l v P n wx) (hs:Sli paraR wy (fun q=>wx.heap.size ≤ q ∧ q < wy.heap.size) k u):Sli paraR wy (InF w wy v P) k u:=
 hs.more fun q hq=>⟨Nat.le_trans h.gs.size hq.1,hq.2,fun p hp=>by have:=h.gs.plt hp; omega,fun e=>by have:=(h.gs.own.block q e).2; omega⟩
set_option maxRecDepth 100000 in
set_option maxHeartbeats 6000000 in
theorem Script_c (sb:Nat) (k0:Int) (w:World) (hs:Str w sb k0) (hk0:k0 ≤ 3200000000000000000) :
  Calls Tryz.prog 11 #[.pointer (some ⟨sb,0,none⟩)] w (Took sb k0 400000 (isScript w) w):=by
 have S0:=Lib.hid hs
 have hsb:=hs.lt
 clear hs
 obtain ⟨i0,hi0,hz0,hz1,hz2⟩:=info_parts (show (Tryz.prog.info? 46).map (fun i=>(i.zero,i.size,i.bytes)) = some (some (.agg #[.string ⟨#[]⟩,.int .i64 0,.string ⟨#[]⟩,.int .i64 0,.slice none 0 0]),5,72) by kernel_rfl)
 have hG:=(GSI.start (R:=svR) (RI:=paraR) (inn:=fun x=>x.1.paras) (pv:=fun x=>x.2) (e:=46) S0.out).new (xCs ⟨#[]⟩ (.slice none 0 0)) 28
 go_enter Tryz.func11,Tryz.ntmps11
 go_upto_region 1 with (fail)
 generalize hW:w.alloc (.cells #[.string ⟨#[]⟩,.slice none 0 0] 28) = wR
 have G0:=Lib.hid (show ScG w sb [] (.slice none 0 0) [(w.heap.size,xCs ⟨#[]⟩ (.slice none 0 0),28)] k0 wR by rw [← hW]; exact hG)
 clear hG hW
 have hRw:=G0.out.gs.plt (p:=(w.heap.size,xCs ⟨#[]⟩ (.slice none 0 0),28)) (by simp)
 dsimp only at hRw
 go_wp2_with fail
 refine (oneL wR [⟨#[84]⟩,⟨#[84,104,101,32,77,105,108,108]⟩,⟨#[65,32,45,32,66]⟩] _ _ _ _ rfl rfl (by decide) (by decide) G0.out.gs.str (by omega)).mono ?_
 rintro e w1 ⟨v1,n1,rfl,⟨x1,hx1,rfl⟩,hn1,hs1,hg1⟩
 have b1:x1.size ≤ 20:=oneOf (by decide +kernel) hx1
 have hG1:=(G0.out.alloc _).turn hg1 hs1
 have hXR:w.heap.size < w1.heap.size:=Nat.lt_of_lt_of_le (by simp; omega) hg1.size
 have hG2:=hG1.new (xCs x1 (.slice none 0 0)) 28
 clear hs1 hg1 hG1 G0 hx1
 go_upto_region 2 with (fail)
 generalize hW:w1.alloc (.cells #[.string x1,.slice none 0 0] 28) = wX
 have G2:=Lib.hid (show ScG w sb [] (.slice none 0 0) [(w1.heap.size,xCs x1 (.slice none 0 0),28),(w.heap.size,xCs ⟨#[]⟩ (.slice none 0 0),28)] n1 wX by rw [← hW]; exact hG2)
 clear hG2 hW
 generalize w1.heap.size = X0 at *
 go_wp2_with fail
 refine (next_c sb n1 6 _ G2.out.gs.str (by omega) (by omega) (by omega)).mono ?_
 rintro e w2 ⟨v2,n2,rfl,⟨m2,hm0,hm1,rfl⟩,hn2,hs2,hg2⟩
 obtain ⟨m,rfl⟩:=Int.eq_ofNat_of_zero_le hm0
 have hm:m < 6:=by omega
 have G3:=Lib.hid (G2.out.turn hg2 hs2)
 clear hs2 hg2 G2 hm0 hm1
 go_wp2
 go_loopw [11] (fun i wr=>∃ (k:Nat) (l:List (Scene × Value)) (v:Value) (n:Int),k ≤ m ∧ i = .int .i64 k ∧ n ≤ k0 + 2 + 60100 * (k:Int) ∧ l.length = k ∧ Hid (ScG w sb l v [(X0,xCs x1 v,28),(w.heap.size,xCs ⟨#[]⟩ (.slice none 0 0),28)] n wr) ∧ Hid (∀ x ∈ l,sceneBd x.1)) (fun i _=>m - (intOf i).toNat)
 case atStart=>exact ⟨0,[],_,n2,by omega,rfl,by omega,rfl,G3.out,fun x hx=>by cases hx⟩
 case round=>
  clear G3
  obtain ⟨k,l,v,n,hk,rfl,hn,hll,HG,HX⟩:=hrel
  obtain ⟨A5,c5,hv,hc51,hc52⟩:=(HG.out.gs.own.sli (F:=fun _=>True) (fun _ _ _=>trivial) (fun _ _=>trivial)).form
  clear hc51 hc52
  rw [hll] at hv
  subst hv
  by_cases hlt:k < m
  ·refine (show _ from ?_)
   go_wp2_with fail
   refine (Scene_c sb n wr HG.out.gs.str (by omega)).mono ?_
   rintro e w4 ⟨v4,n4,rfl,⟨s4,u4,rfl,hu4,hb4⟩,hn4,hs4,hg4⟩
   obtain ⟨A4,d4,hv4,_,_⟩:=hu4.form
   subst hv4
   rw [show scCs s4.no s4.place s4.set s4.time (.slice A4 s4.paras.length d4) = #[.string s4.no,.int .i64 s4.place,.string s4.set,.int .i64 s4.time,(Value.slice A4 s4.paras.length d4)] from rfl]
   have hG4:=HG.out.turn hg4 hs4
   have hSw:=hG4.gs.plt (p:=(w.heap.size,xCs ⟨#[]⟩ (.slice none 0 0),28)) (by simp)
   have hSX:=hG4.gs.plt (p:=(X0,xCs x1 (.slice A5 k c5),28)) (by simp)
   dsimp only at hSw hSX
   have hu5:=innNew (GSI.fresh (v:=.slice A5 k c5) HG.out hu4) (scCs s4.no s4.place s4.set s4.time (.slice A4 s4.paras.length d4)) 46
   have hG5:=hG4.new (scCs s4.no s4.place s4.set s4.time (.slice A4 s4.paras.length d4)) 46
   go_upto_region 5 with (fail)
   generalize hW:w4.alloc (.cells #[.string s4.no,.int .i64 s4.place,.string s4.set,.int .i64 s4.time,(Value.slice A4 s4.paras.length d4)] 46) = wE
   have G5:=Lib.hid (show ScG w sb l (.slice A5 k c5) [(w4.heap.size,scCs s4.no s4.place s4.set s4.time (.slice A4 s4.paras.length d4),46),(X0,xCs x1 (.slice A5 k c5),28),(w.heap.size,xCs ⟨#[]⟩ (.slice none 0 0),28)] n4 wE by rw [← hW]; exact hG5)
   have U5:=Lib.hid (show Sli paraR wE (InF w wE (.slice A5 k c5) [(w4.heap.size,scCs s4.no s4.place s4.set s4.time (.slice A4 s4.paras.length d4),46),(X0,xCs x1 (.slice A5 k c5),28),(w.heap.size,xCs ⟨#[]⟩ (.slice none 0 0),28)]) s4.paras (.slice A4 s4.paras.length d4) by rw [← hW]; exact hu5)
   clear hG5 hu5 hG4 hu4 hs4 hg4 HG hW
   generalize w4.heap.size = E0 at *
   have c1:wE.cell? ⟨X0,1,none⟩ = some (.slice A5 k c5):=(G5.out.gs.cell (p:=(X0,xCs x1 (.slice A5 k c5),28)) (by simp)).1 1
   have c3:wE.cell? ⟨E0,3,none⟩ = some (.int .i64 s4.time):=(G5.out.gs.cell (p:=(E0,scCs s4.no s4.place s4.set s4.time (.slice A4 s4.paras.length d4),46)) (by simp)).1 3
   go_cut [23] (fun b wx=>∃ bb:Bool,b = .bool bb ∧ wx = wE)
   case first=>
    by_cases hk0:k = 0
    ·have hk1:(k:Int) = 0:=by omega
     by_cases ht5:s4.time = 5
     ·go_wp2
      go_meet
      exact ⟨_,rfl,rfl⟩
     ·go_wp2
      go_meet
      exact ⟨_,rfl,rfl⟩
    ·have hk1:¬ (k:Int) = 0:=by omega
     go_wp2
     go_meet
     exact ⟨_,rfl,rfl⟩
   case rest=>
    obtain ⟨bb,rfl,rfl⟩:=hcut
    clear c1 c3
    go_upto_if 23 with (fail)
    go_cut [] (fun wx=>∃ t:Int,0 ≤ t ∧ t ≤ 5 ∧ Hid (ScG w sb l (.slice A5 k c5) [(E0,scCs s4.no s4.place s4.set t (.slice A4 s4.paras.length d4),46),(X0,xCs x1 (.slice A5 k c5),28),(w.heap.size,xCs ⟨#[]⟩ (.slice none 0 0),28)] n4 wx)
     ∧ Hid (Sli paraR wx (InF w wx (.slice A5 k c5) [(E0,scCs s4.no s4.place s4.set t (.slice A4 s4.paras.length d4),46),(X0,xCs x1 (.slice A5 k c5),28),(w.heap.size,xCs ⟨#[]⟩ (.slice none 0 0),28)]) s4.paras (.slice A4 s4.paras.length d4)))
    case first=>
     cases bb with
     | true=>
      have hG6:=G5.out.set (i:=3) svFlat (.int .i64 2) (by simp; omega)
      have hU6:=innSet (i:=3) (z:=.int .i64 2) U5.out
      have f3:wc.frozen? ⟨E0,3,none⟩ = false:=(G5.out.gs.cell (p:=(E0,scCs s4.no s4.place s4.set s4.time (.slice A4 s4.paras.length d4),46)) (by simp)).2 3
      have c3:wc.cell? ⟨E0,3,none⟩ = some (.int .i64 s4.time):=(G5.out.gs.cell (p:=(E0,scCs s4.no s4.place s4.set s4.time (.slice A4 s4.paras.length d4),46)) (by simp)).1 3
      go_wp2
      go_meet
      exact ⟨2,by omega,by omega,Lib.hid hG6,Lib.hid hU6⟩
     | false=>
      go_wp2
      go_meet
      exact ⟨s4.time,by have:=hb4.2.2.2.2.1; omega,by have:=hb4.2.2.2.2.2.1; omega,G5,U5⟩
    case rest=>
     clear G5 U5
     obtain ⟨t6,ht1,ht2,G6,U6⟩:=hcut
     go_upto_region 7 with (fail)
     have c1:wc.cell? ⟨X0,1,none⟩ = some (.slice A5 k c5):=(G6.out.gs.cell (p:=(X0,xCs x1 (.slice A5 k c5),28)) (by simp)).1 1
     have e0:=(G6.out.gs.cell (p:=(E0,scCs s4.no s4.place s4.set t6 (.slice A4 s4.paras.length d4),46)) (by simp)).1
     have e1:wc.cell? ⟨E0,0,none⟩ = some (.string s4.no):=e0 0
     have e2:wc.cell? ⟨E0,1,none⟩ = some (.int .i64 s4.place):=e0 1
     have e3:wc.cell? ⟨E0,2,none⟩ = some (.string s4.set):=e0 2
     have e4:wc.cell? ⟨E0,3,none⟩ = some (.int .i64 t6):=e0 3
     have e5:wc.cell? ⟨E0,4,none⟩ = some (.slice A4 s4.paras.length d4):=e0 4
     clear e0
     have hz6:=G6.out.gs.size
     have hlX:=G6.out.gs.plt (p:=(X0,xCs x1 (.slice A5 k c5),28)) (by simp)
     dsimp only at hlX
     have c1f:∀ (o:Obj),(wc.alloc o).cell? ⟨X0,1,none⟩ = some (.slice A5 k c5):=fun o=>(World.cell?_alloc_lt wc o ⟨X0,1,none⟩ hlX).trans c1
     go_wp2_with (at_builtin; (refine wpList_pushB (R:=svR) rfl _ _ _ rfl w.heap.size w.heap.size 46 i0 _ 72 Tryz.underlying26 hi0 hz0 hz1 hz2 rfl (by decide) _ (.slice A5 k c5) l rfl (G6.out.gs.own.alloc _) ((⟨s4.no,s4.place,s4.set,t6,s4.paras⟩,.slice A4 s4.paras.length d4):Scene × Value) _ rfl (oneC rfl) wc.heap.size _ _ (heap_alloc_new wc _) rfl (by simp [maxLen]; omega) (by omega) (by simp; omega) ?_); intro g cap w8 hown8 hg8 hat8 hlt8; have G8:=GSI.more (G6.out.alloc _) hown8 hg8 rfl hat8 (innTurn U6.out hsb (gAlloc (gRefl wc sb) _)); have c8:w8.cell? ⟨X0,1,none⟩ = some (.slice A5 k c5):=(G8.gs.cell (p:=(X0,xCs x1 (.slice A5 k c5),28)) (by simp)).1 1; have f8:w8.frozen? ⟨X0,1,none⟩ = false:=(G8.gs.cell (p:=(X0,xCs x1 (.slice A5 k c5),28)) (by simp)).2 1)
     have G9:=Lib.hid ((G8.less (Q:=[(X0,xCs x1 (.slice A5 k c5),28),(w.heap.size,xCs ⟨#[]⟩ (.slice none 0 0),28)]) (by simp)).set (i:=1) svFlat (.slice (some ⟨g,0,none⟩) (l.length + 1) cap) (by simp; omega))
     go_roundw
     case rel=>exact ⟨k + 1,l ++ [((⟨s4.no,s4.place,s4.set,t6,s4.paras⟩:Scene),.slice A4 s4.paras.length d4)],.slice (some ⟨g,0,none⟩) (k + 1) cap,n4,by omega,intNum,by omega,by simp [hll],(by have h:=G9; rw [hll] at h; exact h),fun x hx=>by
      rcases List.mem_append.1 hx with h | h
      ·exact HX.out x h
      ·rw [List.mem_singleton] at h; subst h; exact ⟨hb4.1,hb4.2.1,hb4.2.2.1,hb4.2.2.2.1,ht1,ht2,hb4.2.2.2.2.2.2⟩⟩
     case measure=>simp [intOf]; omega
  ·have c0:=(HG.out.gs.cell (p:=(X0,xCs x1 (.slice A5 k c5),28)) (by simp)).1
   have e0:wr.cell? ⟨X0,0,none⟩ = some (.string x1):=c0 0
   have e1:wr.cell? ⟨X0,1,none⟩ = some (.slice A5 k c5):=c0 1
   obtain ⟨d,f⟩:=HG.out.gs.cell (p:=(w.heap.size,xCs ⟨#[]⟩ (.slice none 0 0),28)) (by simp)
   have f0:wr.frozen? ⟨w.heap.size,0,none⟩ = false:=f 0
   have f1:wr.frozen? ⟨w.heap.size,1,none⟩ = false:=f 1
   have d0:wr.cell? ⟨w.heap.size,0,none⟩ = some (.string ⟨#[]⟩):=d 0
   have d1:wr.cell? ⟨w.heap.size,1,none⟩ = some (.slice none 0 0):=d 1
   have hEw:X0 ≠ w.heap.size:=by omega
   clear f c0 d
   have q:=HG.out.less (Q:=[(w.heap.size,xCs ⟨#[]⟩ (.slice none 0 0),28)]) (by simp)
   have q0:=q.set (i:=0) svFlat (.string x1) (by simp)
   have q1:=Lib.hid (q0.set (i:=1) svFlat (.slice A5 k c5) (by simp))
   clear q q0
   go_wp2
   refine ⟨rfl,.agg (xCs x1 (.slice A5 k c5)),(by rw [results_cell1 rfl]; go_simp; rfl),?_⟩
   refine ⟨_,n,rfl,⟨⟨x1,l.map (·.1)⟩,l,.slice A5 k c5,rfl,rfl,q1.out.gs.own,fun y hy=>(q1.out.inn y hy).more fun q hq=>hq.less (by simp),?_⟩,by omega,q1.out.gs.str,q1.out.gs.gr⟩
   refine ⟨by show x1.size ≤ 1000; omega,by simp; omega,fun s hs=>?_⟩
   obtain ⟨y,hy,rfl⟩:=List.mem_map.1 hs
   exact HX.out y hy
end
section
open Go.RowKit
theorem Lay.oneM {α:Type} {R:Rep α} {w:World} {F:Nat → Prop} {l:List α} {cs:List Value} (h:Lay R w F l cs) (h1:∀ x ∈ l,∀ a,R.rel w F x a → ∀ u ∈ a,u.oneCell' = true):∀ u ∈ cs,u.oneCell' = true:=by
 intro u hu
 obtain ⟨j,hj,rfl⟩:=List.mem_iff_getElem.1 hu
 by_cases hn:R.n = 0
 ·rw [h.1,hn] at hj; omega
 ·have hq:j / R.n < l.length:=(Nat.div_lt_iff_lt_mul (by omega)).2 (by rw [← h.1]; exact hj)
  refine h1 _ (List.getElem_mem hq) _ (h.2 _ _ (List.getElem?_eq_getElem hq)) _ ?_
  rw [List.mem_iff_getElem?]
  refine ⟨j % R.n,?_⟩
  rw [List.getElem?_take,List.getElem?_drop,if_pos (Nat.mod_lt _ (by omega)),Nat.mul_comm,Nat.div_add_mod]
  exact List.getElem?_eq_getElem hj
set_option maxHeartbeats 2000000 in
set_option maxRecDepth 100000 in
theorem cloneScene_c {F:Nat → Prop} (l:List (Scene × Value)) (v:Value) (w:World) (h:Sli svR w F l v) (hl:l.length ≤ 1000000) (ho:∀ x ∈ l,∃ A n c,x.2 = .slice A n c) :
  Calls Tryz.prog 32 #[v] w (fun e w'=>∃ v',e = .returned v' ∧ Own svR w' w.heap.size w.heap.size 46 l v' ∧ Below w.heap.size w w'):=by
 obtain ⟨A,c,rfl,hc1,hc2,h3⟩:=h
 obtain ⟨i0,hi0,hz0,hz1,hz2⟩:=info_parts (show (Tryz.prog.info? 46).map (fun i=>(i.zero,i.size,i.bytes)) = some (some (.agg #[.string ⟨#[]⟩,.int .i64 0,.string ⟨#[]⟩,.int .i64 0,.slice none 0 0]),5,72) by kernel_rfl)
 have q22:∀ (w:World) (a:Option Addr) (n c n' c':Nat),(binOp .eql 26 (.slice a n c) (.slice none n' c')).run Tryz.prog w = .ok (.bool a.isNone) w:=fun w a n c n' c'=>Lib.run_eql_slice_nil w _ _ a n c n' c' Tryz.underlying26
 cases A with
 | none=>
  have h0:¬ 0 < l.length:=fun h0=>by obtain ⟨b,off,cs,e,_⟩:=h3 h0; cases e
  obtain rfl:l = []:=List.length_eq_zero_iff.1 (by omega)
  clear h3
  go_enter Tryz.func32,Tryz.ntmps32
  go_wp2
  go_ret
  exact ⟨_,rfl,Own.nil_,Below.refl _ _⟩
 | some ad=>
  obtain ⟨cs,hcs,hcell⟩:∃ cs,Lay svR w F l cs ∧ ∀ j u,cs[j]? = some u → w.cell? (ad.add j) = some u:=by
   by_cases h0:0 < l.length
   ·obtain ⟨b,off,cs,e,hb,hl,hc⟩:=h3 h0
    injection e with e
    subst e
    exact ⟨cs,hl,fun j u hj=>by rw [Addr.add_lit]; exact hc j u hj⟩
   ·obtain rfl:l = []:=List.length_eq_zero_iff.1 (by omega)
    exact ⟨[],Lay.nil_,fun j u hj=>by simp at hj⟩
  clear h3
  have HC:=Lib.hid hcell
  have HL:=Lib.hid hcs
  clear hcell hcs
  go_enter Tryz.func32,Tryz.ntmps32
  go_wp2_with (at_builtin; refine wpList_append_own _ rfl _ _ 26 rfl w.heap.size 46 i0 _ 5 72 Tryz.underlying26 hi0 hz0 hz1 hz2 rfl (by decide) _ _ _ rfl (World.ownsRow_made w #[] 0 (Nat.le_refl _) (Nat.zero_le _) (by simp)) ad l.length c cs rfl ?qc1 ?qc2 ?qc3 ?qc4 ?qc5 ?qc6 ?_)
  case qc1=>exact HL.out.1
  case qc2=>exact fun j u hj=>Lib.cell?_alloc_some _ (HC.out j u hj)
  case qc3=>exact HL.out.oneM (fun x hm a hx=>by have e:a = x.1.cells x.2:=hx; subst e; obtain ⟨A,n,c,e⟩:=ho x hm; rw [e]; exact oneC rfl)
  case qc4=>unfold maxLen; omega
  case qc5=>omega
  case qc6=>simp
  intro v' w1 hown hgrow hnil
  go_wp2
  go_ret
  have hown2:w1.ownsRow w.heap.size 46 5 v' l.length cs:=by simpa using hown
  refine ⟨v',rfl,⟨_,hown2,⟨HL.out.1,fun k x hx=>HL.out.2 k x hx⟩⟩,?_⟩
  exact ((Below.refl _ w).alloc (Nat.le_refl _) _).grown hgrow (by simp) (by intro k hk; simp [Value.ownBlock] at hk; omega)
set_option maxHeartbeats 2000000 in
set_option maxRecDepth 100000 in
theorem clonePara_c {F:Nat → Prop} (l:List (Para)) (v:Value) (w:World) (h:Sli paraR w F l v) (hl:l.length ≤ 1000000) :
  Calls Tryz.prog 35 #[v] w (fun e w'=>∃ v',e = .returned v' ∧ Own paraR w' w.heap.size w.heap.size 78 l v' ∧ Below w.heap.size w w'):=by
 obtain ⟨A,c,rfl,hc1,hc2,h3⟩:=h
 obtain ⟨i0,hi0,hz0,hz1,hz2⟩:=info_parts (show (Tryz.prog.info? 78).map (fun i=>(i.zero,i.size,i.bytes)) = some (some (.agg #[.int .i64 0,.string ⟨#[]⟩]),2,24) by kernel_rfl)
 have q22:∀ (w:World) (a:Option Addr) (n c n' c':Nat),(binOp .eql 44 (.slice a n c) (.slice none n' c')).run Tryz.prog w = .ok (.bool a.isNone) w:=fun w a n c n' c'=>Lib.run_eql_slice_nil w _ _ a n c n' c' Tryz.underlying44
 cases A with
 | none=>
  have h0:¬ 0 < l.length:=fun h0=>by obtain ⟨b,off,cs,e,_⟩:=h3 h0; cases e
  obtain rfl:l = []:=List.length_eq_zero_iff.1 (by omega)
  clear h3
  go_enter Tryz.func35,Tryz.ntmps35
  go_wp2
  go_ret
  exact ⟨_,rfl,Own.nil_,Below.refl _ _⟩
 | some ad=>
  obtain ⟨cs,hcs,hcell⟩:∃ cs,Lay paraR w F l cs ∧ ∀ j u,cs[j]? = some u → w.cell? (ad.add j) = some u:=by
   by_cases h0:0 < l.length
   ·obtain ⟨b,off,cs,e,hb,hl,hc⟩:=h3 h0
    injection e with e
    subst e
    exact ⟨cs,hl,fun j u hj=>by rw [Addr.add_lit]; exact hc j u hj⟩
   ·obtain rfl:l = []:=List.length_eq_zero_iff.1 (by omega)
    exact ⟨[],Lay.nil_,fun j u hj=>by simp at hj⟩
  clear h3
  have HC:=Lib.hid hcell
  have HL:=Lib.hid hcs
  clear hcell hcs
  go_enter Tryz.func35,Tryz.ntmps35
  go_wp2_with (at_builtin; refine wpList_append_own _ rfl _ _ 44 rfl w.heap.size 78 i0 _ 2 24 Tryz.underlying44 hi0 hz0 hz1 hz2 rfl (by decide) _ _ _ rfl (World.ownsRow_made w #[] 0 (Nat.le_refl _) (Nat.zero_le _) (by simp)) ad l.length c cs rfl ?qc1 ?qc2 ?qc3 ?qc4 ?qc5 ?qc6 ?_)
  case qc1=>exact HL.out.1
  case qc2=>exact fun j u hj=>Lib.cell?_alloc_some _ (HC.out j u hj)
  case qc3=>exact HL.out.oneM (fun x hm a hx=>by have e:a = x.cells:=hx; subst e; exact oneC rfl)
  case qc4=>unfold maxLen; omega
  case qc5=>omega
  case qc6=>simp
  intro v' w1 hown hgrow hnil
  go_wp2
  go_ret
  have hown2:w1.ownsRow w.heap.size 78 2 v' l.length cs:=by simpa using hown
  refine ⟨v',rfl,⟨_,hown2,⟨HL.out.1,fun k x hx=>HL.out.2 k x hx⟩⟩,?_⟩
  exact ((Below.refl _ w).alloc (Nat.le_refl _) _).grown hgrow (by simp) (by intro k hk; simp [Value.ownBlock] at hk; omega)
end
section
open Go.RowKit Go.Sort
end
end Go.Proofs.YtaoobkgepcikiaaGreatDoor
