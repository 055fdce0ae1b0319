/- Texts packed: NumP, StoryE, SpD, ScX, ScY. -/
import Derived.Test.YtaoobkgepcikiaaGreatDoorSc19
import Derived.Test.YtaoobkgepcikiaaGreatDoorSc23
import Derived.Test.YtaoobkgepcikiaaGreatDoorSc05
import Derived.Test.YtaoobkgepcikiaaGreatDoorSc22
import Derived.Deep.CutBlock
import Derived.Test.YtaoobkgepcikiaaGreatDoorSc16
import Derived.Test.YtaoobkgepcikiaaGreatDoorSc18
namespace Go.Proofs.YtaoobkgepcikiaaGreatDoor
set_option linter.unusedVariables false
section
open Go.RowKit Go.Sort
def numL:Nat → List Scene → List Scene
 | 0,l=>l
 | k + 1,l=>(numL k l).modify k fun x=>{ x with no:=noOf k }
theorem numTo_map (k:Nat) (l:List (Scene × Value)):(numbTo k l).map (·.1) = numL k (l.map (·.1)):=by
 induction k with
 | zero=>rfl
 | succ k ih=>
  rw [numbTo,numL,← ih]
  apply List.ext_getElem?
  intro i
  rw [List.getElem?_map,List.getElem?_modify,List.getElem?_modify,List.getElem?_map]
  cases (numbTo k l)[i]? with
  | none=>rfl
  | some y=>by_cases e:k = i <;> simp [e,setNo]
def NuP (x:Script) (w:World) (e:Ending) (w':World):Prop:=∃ (t:ByteArray) (l:List (Scene × Value)) (v:Value),e = .returned (.tuple #[.agg (xCs t v),.int .i64 (chkE x)]) ∧ BI w l v [] w' ∧ (chkE x = 0 → t = x.title ∧ l.map (·.1) = numL x.scenes.length x.scenes)
set_option maxRecDepth 100000 in
set_option maxHeartbeats 8000000 in
theorem Number_c {F:Nat → Prop} (t:ByteArray) (ls:List (Scene × Value)) (v:Value) (w:World) (h:ScL w F t ls v) (hl:ls.length ≤ 95) (hm:MaxLaid w) :
  Calls Tryz.prog 47 #[.agg #[.string t,v]] w (NuP ⟨t,ls.map (·.1)⟩ w):=by
 obtain ⟨A,c,rfl,hlc,hcm⟩:=h.sli.form
 obtain ⟨L,hL⟩:∃ L,ls.length = L:=⟨_,rfl⟩
 have HL:=Lib.hid hL
 rw [hL] at h hlc hl ⊢
 have H:=Lib.hid h
 have HM:=Lib.hid hm
 clear h hm hL
 go_enter Tryz.func47,Tryz.ntmps47
 go_upto_region 1 with (fail)
 have hG:BI w [] (.slice none 0 0) [(w.heap.size + 1,xCs ⟨#[]⟩ (.slice none 0 0),28),(w.heap.size,xCs t (.slice A L c),28)] ((w.alloc (.cells (xCs t (.slice A L c)) 28)).alloc (.cells (xCs ⟨#[]⟩ (.slice none 0 0)) 28)):=by
  have h:=((BI.start w).new (xCs t (.slice A L c)) 28).new (xCs ⟨#[]⟩ (.slice none 0 0)) 28
  rw [show (w.alloc (.cells (xCs t (.slice A L c)) 28)).heap.size = w.heap.size + 1 by simp] at h
  exact h
 generalize hW:(w.alloc (.cells #[.string t,.slice A L c] 28)).alloc (.cells #[.string ⟨#[]⟩,.slice none 0 0] 28) = w1
 have G1:=Lib.hid (show BI w [] (.slice none 0 0) [(w.heap.size + 1,xCs ⟨#[]⟩ (.slice none 0 0),28),(w.heap.size,xCs t (.slice A L c),28)] w1 by rw [← hW]; exact hG)
 clear hG hW
 obtain ⟨gx,_⟩:=G1.out.cell (p:=(w.heap.size,xCs t (.slice A L c),28)) (by simp)
 have d0:w1.cell? ⟨w.heap.size,0,none⟩ = some (.string t):=gx 0
 have d1:w1.cell? ⟨w.heap.size,1,none⟩ = some (.slice A L c):=gx 1
 have HCK:=Lib.hid (Check_c t ls (.slice A L c) w1 (by have h:=H.out.below G1.out.bo.bel; rw [← HL.out] at h ⊢; exact h) (max_below HM.out G1.out.bo.bel (Nat.le_refl _)))
 clear gx
 go_wp2_with fail
 refine HCK.out.mono ?_
 rintro e w2 ⟨rfl,hb2⟩
 have G2:=Lib.hid (G1.out.below hb2)
 have HE:=Lib.hid (rfl:chkE ⟨t,ls.map (·.1)⟩ = chkE ⟨t,ls.map (·.1)⟩)
 revert HE
 generalize hEg:chkE ⟨t,ls.map (·.1)⟩ = E at *
 intro HE
 have HEG:=Lib.hid hEg
 clear HE hEg hb2 G1 d0 d1 HCK
 obtain ⟨gx,_⟩:=G2.out.cell (p:=(w.heap.size,xCs t (.slice A L c),28)) (by simp)
 obtain ⟨gy,fy⟩:=G2.out.cell (p:=(w.heap.size + 1,xCs ⟨#[]⟩ (.slice none 0 0),28)) (by simp)
 have d0:w2.cell? ⟨w.heap.size,0,none⟩ = some (.string t):=gx 0
 have d1:w2.cell? ⟨w.heap.size,1,none⟩ = some (.slice A L c):=gx 1
 have y0:w2.cell? ⟨w.heap.size + 1,0,none⟩ = some (.string ⟨#[]⟩):=gy 0
 have y1:w2.cell? ⟨w.heap.size + 1,1,none⟩ = some (.slice none 0 0):=gy 1
 have f0:w2.frozen? ⟨w.heap.size + 1,0,none⟩ = false:=fy 0
 have f1:w2.frozen? ⟨w.heap.size + 1,1,none⟩ = false:=fy 1
 clear gx gy fy
 by_cases hE0:E = 0
 case neg=>
  have q1:(E != 0) = true:=bne_iff_ne.2 hE0
  have HNN:=Lib.hid (show NuP ⟨t,ls.map (·.1)⟩ w (.returned (.tuple #[.agg (xCs ⟨#[]⟩ (.slice none 0 0)),.int .i64 E])) ((w2.setCell ⟨w.heap.size + 1,0,none⟩ (.string ⟨#[]⟩)).setCell ⟨w.heap.size + 1,1,none⟩ (.slice none 0 0)) from
   ⟨⟨#[]⟩,[],.slice none 0 0,by rw [HEG.out],(((G2.out.less (Q:=[(w.heap.size + 1,xCs ⟨#[]⟩ (.slice none 0 0),28)]) (by simp)).set (i:=0) (.string ⟨#[]⟩) (by simp)).set (i:=1) (.slice none 0 0) (by simp)).less (by simp),fun h=>absurd (HEG.out.symm.trans h) hE0⟩)
  clear hE0
  go_wp2
  refine ⟨rfl,.tuple #[.agg (xCs ⟨#[]⟩ (.slice none 0 0)),.int .i64 E],(by rw [results_cell_tmp rfl]; go_simp; rfl),?_⟩
  exact HNN.out
 subst hE0
 have h2:Sc2 w2 F ls (.slice A L c):=by
  have h:=H.out.below G2.out.bo.bel
  exact ⟨h.sli,h.par,h.lt⟩
 have HCP:=Lib.hid (copied_c t ls (.slice A L c) w2 h2 (by rw [HL.out]; omega) (fun y hy=>(H.out.bd y hy).2.2.1))
 clear h2 y0 y1 f0 f1
 go_wp2_with fail
 refine HCP.out.mono ?_
 rintro e w3 ⟨l3,v3,rfl,hl3,hB3⟩
 have hG3:=G2.out.take hB3
 have hL3:l3.length = L:=by have:=congrArg List.length hl3; simpa [HL.out] using this
 have HM3:=Lib.hid (And.intro hL3 hl3)
 obtain ⟨A3,c3,hv3,hc31,hc32⟩:=(hG3.bo.own.sliF (enc:=fun x:Scene × Value=>x.1.cells x.2) (hn:=fun _=>rfl) (F:=fun _=>True) (fun _ _=>trivial)).form
 rw [hL3] at hv3 hc31
 subst hv3
 have hG4:=hG3.new (xCs t (.slice A3 L c3)) 28
 have hX3:w.heap.size + 1 < w3.heap.size:=hG3.bo.plt (p:=(w.heap.size + 1,xCs ⟨#[]⟩ (.slice none 0 0),28)) (by simp)
 clear hB3 HCP hG3 G2 hl3 hL3 d0 d1
 rw [show xCs t (.slice A3 L c3) = #[.string t,.slice A3 L c3] from rfl]
 go_upto_region 5 with (fail)
 generalize hW:w3.alloc (.cells #[.string t,.slice A3 L c3] 28) = w4
 have G4:=Lib.hid (show BI w l3 (.slice A3 L c3) [(w3.heap.size,xCs t (.slice A3 L c3),28),(w.heap.size + 1,xCs ⟨#[]⟩ (.slice none 0 0),28)] w4 by rw [← hW]; exact hG4.less (by simp))
 clear hG4 hW
 generalize w3.heap.size = X at *
 have x1:w4.cell? ⟨X,1,none⟩ = some (.slice A3 L c3):=(G4.out.cell (p:=(X,xCs t (.slice A3 L c3),28)) (by simp)).1 1
 go_wp2
 go_loopw [18] (fun i wr=>∃ k:Nat,k ≤ L ∧ i = .int .i64 k ∧ Hid (BI w (numbTo k l3) (.slice A3 L c3) [(X,xCs t (.slice A3 L c3),28),(w.heap.size + 1,xCs ⟨#[]⟩ (.slice none 0 0),28)] wr)) (fun i _=>L - (intOf i).toNat)
 case atStart=>exact ⟨0,by omega,rfl,G4⟩
 case round=>
  clear G4 x1
  obtain ⟨k,hk,rfl,HG⟩:=hrel
  by_cases hlt:k < L
  ·go_upto_region 8 with (fail)
   have hlen:(numbTo k l3).length = L:=(numbTo_len k l3).trans HM3.out.1
   obtain ⟨g,cap,hv,hg1,hg2⟩:=Own.some_ (enc:=fun x:Scene × Value=>x.1.cells x.2) (hn:=fun _=>rfl) HG.out.bo.own (by omega)
   rw [hlen] at hv
   injection hv with hv1 _ hv3
   subst hv1
   subst hv3
   obtain ⟨old,d1,f1⟩:∃ old:ByteArray,wr.cell? ⟨g,k * 5,none⟩ = some (.string old) ∧ wr.frozen? ⟨g,k * 5,none⟩ = false:=by
    have h:=Own.cellAt (enc:=fun x:Scene × Value=>x.1.cells x.2) (hn:=fun _=>rfl) HG.out.bo.own k (by omega) 0 (by decide)
    exact ⟨_,h.1,h.2⟩
   have c1:wr.cell? ⟨X,1,none⟩ = some (.slice (some ⟨g,0,none⟩) L c3):=(HG.out.cell (p:=(X,xCs t (.slice (some ⟨g,0,none⟩) L c3),28)) (by simp)).1 1
   have hXlt:X < wr.heap.size:=HG.out.bo.plt (p:=(X,xCs t (.slice (some ⟨g,0,none⟩) L c3),28)) (by simp)
   have HI:=Lib.hid (fun W=>show Calls Tryz.prog 14 #[.int .i64 ((k + 1:Nat):Int)] W fun e w'=>e = .returned (.string (noOf k)) ∧ w' = W from Tryz.strconv_Itoa_small (k + 1) (by omega) W)
   have ek:(((k + 1:Nat):Int)) = (k:Int) + 1:=by omega
   rw [ek] at HI
   have e1:IntKind.i64.wrap ((k:Int) + 1) = (k:Int) + 1:=IntWalk.i64_in _ (by omega)
   have HLN:=Lib.hid hlen
   clear hlen
   refine wp_region_drewN_tail 8 (by kernel_rfl) (by kernel_rfl) ?_
   simp only [List.take_succ_cons,List.take_zero,List.drop_succ_cons,List.drop_zero]
   repeat (quiet_step ((go_at_call 14; exact Calls.quiet_of_same (HI.out _))))
   refine wpQuiet_nil ?_
   intro wx hwx
   obtain ⟨nqx,hwx⟩:=hwx
   subst hwx
   have G2:=Lib.hid ((HG.out.below (below_drewN (Below.refl _ _) nqx)).modify (j:=0) (setNo (noOf k)) k (.string (noOf k)) (fun x=>rfl) (by decide) (by rw [HLN.out]; exact hlt) (fun _=>⟨rfl,rfl⟩))
   clear HG HI
   go_wp2
   go_roundw
   case rel=>exact ⟨k + 1,by omega,intNum,G2⟩
   all_goals (try (simp [intOf] <;> omega))
  ·obtain rfl:k = L:=by omega
   have c0:=(HG.out.cell (p:=(X,xCs t (.slice A3 k c3),28)) (by simp)).1
   have e0:wr.cell? ⟨X,0,none⟩ = some (.string t):=c0 0
   have e1:wr.cell? ⟨X,1,none⟩ = some (.slice A3 k c3):=c0 1
   obtain ⟨d,f⟩:=HG.out.cell (p:=(w.heap.size + 1,xCs ⟨#[]⟩ (.slice none 0 0),28)) (by simp)
   have f0:wr.frozen? ⟨w.heap.size + 1,0,none⟩ = false:=f 0
   have f1:wr.frozen? ⟨w.heap.size + 1,1,none⟩ = false:=f 1
   have d0:wr.cell? ⟨w.heap.size + 1,0,none⟩ = some (.string ⟨#[]⟩):=d 0
   have d1:wr.cell? ⟨w.heap.size + 1,1,none⟩ = some (.slice none 0 0):=d 1
   have HFN:=Lib.hid (show NuP ⟨t,ls.map (·.1)⟩ w (.returned (.tuple #[.agg (xCs t (.slice A3 k c3)),.int .i64 0])) ((wr.setCell ⟨w.heap.size + 1,0,none⟩ (.string t)).setCell ⟨w.heap.size + 1,1,none⟩ (.slice A3 k c3)) from
    ⟨t,numbTo k l3,_,by rw [HEG.out],(((HG.out.less (Q:=[(w.heap.size + 1,xCs ⟨#[]⟩ (.slice none 0 0),28)]) (by simp)).set (i:=0) (.string t) (by simp)).set (i:=1) (.slice A3 k c3) (by simp)).less (by simp),fun _=>⟨rfl,by
     rw [numTo_map,HM3.out.2]
     show _ = numL (ls.map (·.1)).length _
     rw [List.length_map,HL.out]⟩⟩)
   clear f c0 d HG
   go_wp2
   refine ⟨rfl,.tuple #[.agg (xCs t (.slice A3 k c3)),.int .i64 0],(by rw [results_cell_tmp rfl]; go_simp; rfl),?_⟩
   exact HFN.out
end
section
open Go.RowKit Go.Sort
theorem setNo_bd {z:ByteArray} {x:Scene × Value} (h:sceneBd x.1) (hz:z.size ≤ 1000):sceneBd (setNo z x).1:=⟨hz,h.2⟩
theorem noOf_sz {k:Nat} (hk:k < 99):(noOf k).size ≤ 1000:=by
 have h:=itoa_sz ((k + 1:Nat):Int) ⟨by omega,by omega⟩
 have e:Lib.itoa ((k + 1:Nat):Int) = Lib.decDigits (k + 1):=by first | rfl | simp [Lib.itoa]
 unfold noOf
 rw [e] at h
 omega
theorem mem_modify {α:Type} {l:List α} {f:α → α} {k:Nat} {y:α} (h:y ∈ l.modify k f):y ∈ l ∨ ∃ x ∈ l,y = f x:=by
 obtain ⟨i,hi⟩:=List.mem_iff_getElem?.1 h
 rw [List.getElem?_modify] at hi
 cases hli:l[i]? with
 | none=>rw [hli] at hi; simp at hi
 | some x=>
  rw [hli] at hi
  have hm:x ∈ l:=List.mem_iff_getElem?.2 ⟨i,hli⟩
  simp at hi
  by_cases e:k = i
  ·rw [if_pos e] at hi; exact .inr ⟨x,hm,hi.symm⟩
  ·rw [if_neg e] at hi; exact .inl (hi ▸ hm)
theorem numbTo_mem {l:List (Scene × Value)}:∀ {k:Nat},k ≤ 99 → ∀ {y:Scene × Value},y ∈ numbTo k l → y ∈ l ∨ ∃ x ∈ l,∃ z:ByteArray,z.size ≤ 1000 ∧ y = setNo z x
 | 0,_,y,h=>.inl h
 | k + 1,hk,y,h=>by
  rcases mem_modify h with h | ⟨x,hx,rfl⟩
  ·exact numbTo_mem (by omega) h
  ·rcases numbTo_mem (by omega) hx with h2 | ⟨u,hu,z,hz,rfl⟩
   ·exact .inr ⟨x,h2,_,noOf_sz (by omega),rfl⟩
   ·exact .inr ⟨u,hu,_,noOf_sz (by omega),rfl⟩
theorem numbTo_bd {l:List (Scene × Value)} {k:Nat} (hk:k ≤ 99) (h:∀ x ∈ l,sceneBd x.1):∀ y ∈ numbTo k l,sceneBd y.1:=fun y hy=>by
 rcases numbTo_mem hk hy with h2 | ⟨x,hx,z,hz,rfl⟩
 ·exact h y h2
 ·exact setNo_bd (h x hx) hz
theorem numbTo_inn {l:List (Scene × Value)} {k:Nat} (hk:k ≤ 99) {w:World} {F:Nat → Prop} (h:∀ x ∈ l,Sli paraR w F x.1.paras x.2):∀ y ∈ numbTo k l,Sli paraR w F y.1.paras y.2:=fun y hy=>by
 rcases numbTo_mem hk hy with h2 | ⟨x,hx,z,hz,rfl⟩
 ·exact h y h2
 ·exact h x hx
theorem GSI.take {w wx wy:World} {sb:Nat} {l l':List (Scene × Value)} {v v':Value} {P:List (Nat × Array Value × TypeId)} {n:Int} (h:ScG w sb l v P n wx) (hb:Below wx.heap.size wx wy)
  (hown:Own svR wy wx.heap.size wx.heap.size 46 l' v') (hi:∀ y ∈ l',Sli paraR wx (InF w wx v P) y.1.paras y.2):ScG w sb l' v' P n wy:=by
 have h2:=h.below hb
 refine ⟨⟨h2.gs.str,h2.gs.gr,hown.less h.gs.size,h2.gs.lt,fun p hp=>⟨(h2.gs.prv p hp).1,(h2.gs.prv p hp).2.1,fun e=>by have:=hown.block _ e; have:=h.gs.plt hp; omega⟩⟩,fun y hy=>?_⟩
 exact ((hi y hy).below hb (fun b hF=>hF.2.1)).more fun q hq=>⟨hq.1,Nat.lt_of_lt_of_le hq.2.1 hb.size,hq.2.2.1,fun e=>by have:=hown.block q e; have:=hq.2.1; omega⟩
theorem inn_slice {w:World} {F:Nat → Prop} {l:List (Scene × Value)} (h:∀ y ∈ l,Sli paraR w F y.1.paras y.2):∀ x ∈ l,∃ A n c,x.2 = .slice A n c:=fun x hx=>by
 obtain ⟨A,c,hv,_⟩:=(h x hx).form
 exact ⟨A,_,c,hv⟩
set_option maxRecDepth 100000 in
set_option maxHeartbeats 6000000 in
theorem Story_c (sb:Nat) (k0:Int) (w:World) (hs:Str w sb k0) (hk0:k0 ≤ 3100000000000000000) (hl:LaidS sb w) :
  Calls Tryz.prog 6 #[.pointer (some ⟨sb,0,none⟩)] w (Took sb k0 400200 (isScript w) w):=by
 have HL:=Lib.hid hl
 have S0:=Lib.hid hs
 have hsb:=hs.lt
 clear hs hl
 have hG:=(GSI.start (R:=svR) (RI:=paraR) (inn:=fun x=>x.1.paras) (pv:=fun x=>x.2) (e:=46) S0.out).new (xCs ⟨#[]⟩ (.slice none 0 0)) 28
 go_enter Tryz.func6,Tryz.ntmps6
 go_upto_region 1 with (fail)
 generalize hW:w.alloc (.cells #[.string ⟨#[]⟩,.slice none 0 0] 28) = wR
 have G0:=Lib.hid (show ScG w sb [] (.slice none 0 0) [(w.heap.size,xCs ⟨#[]⟩ (.slice none 0 0),28)] k0 wR by rw [← hW]; exact hG)
 have hRz:wR.heap.size = w.heap.size + 1:=by rw [← hW]; simp
 clear hG hW
 go_wp2_with fail
 refine (Script_c sb k0 wR G0.out.gs.str (by omega)).mono ?_
 rintro e w1 ⟨v1,n1,rfl,⟨x,l,sv,rfl,hxl,hown,hinn,hbd⟩,hn1,hs1,hg1⟩
 have hlL:l.length ≤ 90:=by have h:=hbd.2.1; rw [hxl] at h; simpa using h
 have hbl:∀ y ∈ l,sceneBd y.1:=fun y hy=>hbd.2.2 _ (by rw [hxl]; exact List.mem_map.2 ⟨y,hy,rfl⟩)
 have htz:x.title.size ≤ 1000:=hbd.1
 have h1:ScG w sb l sv [(w.heap.size,xCs ⟨#[]⟩ (.slice none 0 0),28)] n1 w1:=by
  have h0:=(G0.out.turn hg1 hs1).gs
  refine ⟨⟨hs1,h0.gr,hown.less (by omega),h0.lt,fun p hp=>⟨(h0.prv p hp).1,(h0.prv p hp).2.1,fun e=>?_⟩⟩,fun y hy=>?_⟩
  ·have:=hown.block _ e; rw [List.mem_singleton] at hp; subst hp; dsimp only at this; omega
  ·exact (hinn y hy).more fun q hq=>⟨by have:=hq.1; omega,hq.2.1,fun p hp=>(by rw [List.mem_singleton] at hp; subst hp; have:=hq.1; dsimp only; omega),hq.2.2.2⟩
 obtain ⟨A1,c1,hv1,_,_⟩:=(hown.sli (F:=fun _=>True) (fun _ _ _=>trivial) (fun _ _=>trivial)).form
 subst hv1
 have hsl1:=hown.sli (F:=fun q=>q < w1.heap.size) (fun q _ h=>h) (fun g hg=>(hown.block g hg).2)
 have G1:=Lib.hid h1
 clear hown hinn hbd h1 hs1 hg1 G0
 generalize x.title = tt at *
 go_wp2_with fail
 refine (Numbered_c tt l (.slice A1 l.length c1) w1 hsl1 (fun q h=>h) (by omega) (inn_slice G1.out.inn)).mono ?_
 rintro e w2 ⟨v2,rfl,hown2,hb2⟩
 have hG2:=GSI.take G1.out hb2 hown2 (numbTo_inn (by omega) G1.out.inn)
 have hbl2:=numbTo_bd (k:=l.length) (by omega) hbl
 have hl2:(numbTo l.length l).length = l.length:=numbTo_len _ _
 generalize hL:numbTo l.length l = l2 at *
 clear hL hbl hxl G1 hsl1 hb2
 generalize l.length = L at *
 obtain ⟨A2,c2,hv2,_,_⟩:=(hown2.sli (F:=fun _=>True) (fun _ _ _=>trivial) (fun _ _=>trivial)).form
 rw [hl2] at hv2
 subst hv2
 clear hown2
 rw [show xCs tt (.slice A2 L c2) = #[.string tt,.slice A2 L c2] from rfl]
 have hG3:=hG2.new (xCs tt (.slice A2 L c2)) 28
 have hXw:w2.heap.size ≠ w.heap.size:=by have:=hG2.gs.plt (p:=(w.heap.size,xCs ⟨#[]⟩ (.slice none 0 0),28)) (by simp); dsimp only at this; omega
 go_upto_region 2 with (fail)
 generalize hW:w2.alloc (.cells #[.string tt,.slice A2 L c2] 28) = wX
 have G3:=Lib.hid (show ScG w sb l2 (.slice A2 L c2) [(w2.heap.size,xCs tt (.slice A2 L c2),28),(w.heap.size,xCs ⟨#[]⟩ (.slice none 0 0),28)] n1 wX by rw [← hW]; exact hG3)
 clear hG2 hG3 hW
 generalize w2.heap.size = X at *
 have HB:=Lib.hid (And.intro hl2 hbl2)
 clear hl2 hbl2
 go_wp2_with fail
 refine (flip_c sb n1 3 _ G3.out.gs.str (by omega) (by decide) (by decide)).mono ?_
 rintro e w4 ⟨v4,n4,rfl,⟨b4,rfl⟩,hn4,hs4,hg4⟩
 have G4:=Lib.hid (G3.out.turn hg4 hs4)
 clear G3 hs4 hg4
 have fin:∀ (l:List (Scene × Value)) (v:Value) (n:Int) (wr:World),l.length = L → (∀ y ∈ l,sceneBd y.1) → ScG w sb l v [(w.heap.size,xCs tt v,28)] n wr → n ≤ k0 + 400200 → Took sb k0 400200 (isScript w) w (.returned (.agg (xCs tt v))) wr:=by
  intro l v n wr h1 h2 h3 h4
  refine ⟨_,n,rfl,⟨⟨tt,l.map (·.1)⟩,l,v,rfl,rfl,h3.gs.own,fun y hy=>(h3.inn y hy).more fun q hq=>hq.less (by simp),?_⟩,h4,h3.gs.str,h3.gs.gr⟩
  refine ⟨htz,by simp; omega,fun s hs=>?_⟩
  obtain ⟨y,hy,rfl⟩:=List.mem_map.1 hs
  exact h2 y hy
 have FIN:=Lib.hid fin
 clear fin
 cases b4 with
 | false=>
  have c0:=(G4.out.gs.cell (p:=(X,xCs tt (.slice A2 L c2),28)) (by simp)).1
  have e0:w4.cell? ⟨X,0,none⟩ = some (.string tt):=c0 0
  have e1:w4.cell? ⟨X,1,none⟩ = some (.slice A2 L c2):=c0 1
  obtain ⟨d,f⟩:=G4.out.gs.cell (p:=(w.heap.size,xCs ⟨#[]⟩ (.slice none 0 0),28)) (by simp)
  have f0:w4.frozen? ⟨w.heap.size,0,none⟩ = false:=f 0
  have f1:w4.frozen? ⟨w.heap.size,1,none⟩ = false:=f 1
  have d0:w4.cell? ⟨w.heap.size,0,none⟩ = some (.string ⟨#[]⟩):=d 0
  have d1:w4.cell? ⟨w.heap.size,1,none⟩ = some (.slice none 0 0):=d 1
  clear f c0 d
  have q:=G4.out.less (Q:=[(w.heap.size,xCs ⟨#[]⟩ (.slice none 0 0),28)]) (by simp)
  have q0:=q.set (i:=0) svFlat (.string tt) (by simp)
  have q1:=Lib.hid (q0.set (i:=1) svFlat (.slice A2 L c2) (by simp))
  clear q q0
  go_wp2
  refine ⟨rfl,.agg (xCs tt (.slice A2 L c2)),(by rw [results_cell1 rfl]; go_simp; rfl),?_⟩
  exact FIN.out l2 _ n4 _ HB.out.1 HB.out.2 q1.out (by omega)
 | true=>
  have c1:w4.cell? ⟨X,1,none⟩ = some (.slice A2 L c2):=(G4.out.gs.cell (p:=(X,xCs tt (.slice A2 L c2),28)) (by simp)).1 1
  go_wp2
  go_loopw [14,5,4] (fun i _ z wr=>∃ (k:Nat) (y:ByteArray) (l:List (Scene × Value)) (n:Int),k ≤ L ∧ i = .int .i64 k ∧ z = .string y ∧ y.size ≤ 30 ∧ n ≤ k0 + 400010 + (k:Int) ∧ Hid (l.length = L ∧ ∀ y ∈ l,sceneBd y.1)
   ∧ Hid (ScG w sb l (.slice A2 L c2) [(X,xCs tt (.slice A2 L c2),28),(w.heap.size,xCs ⟨#[]⟩ (.slice none 0 0),28)] n wr)) (fun i _ _ _=>L - (intOf i).toNat)
  case atStart=>exact ⟨0,⟨#[]⟩,l2,n4,by omega,rfl,rfl,by decide,by omega,HB,G4⟩
  case round=>
   clear G4 HB c1
   obtain ⟨k,y,l,n,hk,rfl,rfl,hy,hn,HB,HG⟩:=hrel
   by_cases hlt:k < L
   ·go_wp2_with fail
    refine (oneL wr [⟨#[]⟩,⟨#[]⟩,⟨#[57]⟩] _ _ _ _ rfl rfl (by decide) (by decide) HG.out.gs.str (by omega)).mono ?_
    rintro e w5 ⟨v5,n5,rfl,⟨x5,hx5,rfl⟩,hn5,hs5,hg5⟩
    have b5:x5.size ≤ 2:=oneOf (by decide +kernel) hx5
    have G5:=Lib.hid ((HG.out.alloc _).turn hg5 hs5)
    clear hs5 hg5 HG hx5
    have hL5:=HL.out.grown hsb G5.out.gs.gr
    have hz5:=G5.out.gs.size
    go_wp2_with fail
    refine (BetweenOf_any sb y x5 w5 (by omega) (by omega) hL5 (by omega)).mono ?_
    rintro e w6 ⟨z6,b6,rfl,hz6,hb6⟩
    have G6:=Lib.hid (G5.out.below hb6)
    clear hb6 hL5 G5
    cases hze:z6.toList.isEmpty with
    | true=>
     have c0:=(G6.out.gs.cell (p:=(X,xCs tt (.slice A2 L c2),28)) (by simp)).1
     have e0:w6.cell? ⟨X,0,none⟩ = some (.string tt):=c0 0
     have e1:w6.cell? ⟨X,1,none⟩ = some (.slice A2 L c2):=c0 1
     clear c0
     go_wp2_with fail
     have hsl:=(G6.out.gs.own.sli (F:=fun q=>q < w6.heap.size) (fun q _ h=>h) (fun g hg=>(G6.out.gs.own.block g hg).2))
     have hl6:=HB.out.1
     refine (Numbered_c tt l (.slice A2 L c2) w6 hsl (fun q h=>h) (by omega) (inn_slice G6.out.inn)).mono ?_
     rintro e w7 ⟨v7,rfl,hown7,hb7⟩
     have hG7:=GSI.take G6.out hb7 hown7 (numbTo_inn (by omega) G6.out.inn)
     have hbl7:=numbTo_bd (k:=l.length) (by omega) HB.out.2
     have hl7:(numbTo l.length l).length = L:=(numbTo_len _ _).trans hl6
     generalize hLL:numbTo l.length l = l7 at *
     clear hLL hsl e0 e1 hb7
     obtain ⟨A7,c7,hv7,_,_⟩:=(hown7.sli (F:=fun _=>True) (fun _ _ _=>trivial) (fun _ _=>trivial)).form
     rw [hl7] at hv7
     subst hv7
     clear hown7 hl6
     rw [show xCs tt (.slice A7 L c7) = #[.string tt,.slice A7 L c7] from rfl]
     obtain ⟨d,f⟩:=hG7.gs.cell (p:=(w.heap.size,xCs ⟨#[]⟩ (.slice none 0 0),28)) (by simp)
     have f0:w7.frozen? ⟨w.heap.size,0,none⟩ = false:=f 0
     have f1:w7.frozen? ⟨w.heap.size,1,none⟩ = false:=f 1
     have d0:w7.cell? ⟨w.heap.size,0,none⟩ = some (.string ⟨#[]⟩):=d 0
     have d1:w7.cell? ⟨w.heap.size,1,none⟩ = some (.slice none 0 0):=d 1
     clear f d
     have q:=hG7.less (Q:=[(w.heap.size,xCs ⟨#[]⟩ (.slice none 0 0),28)]) (by simp)
     have q0:=q.set (i:=0) svFlat (.string tt) (by simp)
     have q1:=Lib.hid (q0.set (i:=1) svFlat (.slice A7 L c7) (by simp))
     clear q q0 hG7
     have HB7:=Lib.hid (And.intro hl7 hbl7)
     clear hl7 hbl7
     go_wp2
     refine ⟨rfl,.agg (xCs tt (.slice A7 L c7)),(by rw [results_cell1 rfl]; go_simp; rfl),?_⟩
     exact FIN.out l7 _ n5 _ HB7.out.1 HB7.out.2 q1.out (by omega)
    | false=>
     obtain ⟨g,cap,hv,hg1,hg2⟩:=Own.some_ G6.out.gs.own (by rw [HB.out.1]; omega)
     rw [HB.out.1] at hv
     injection hv with hv1 _ hv3
     subst hv1
     subst hv3
     obtain ⟨old,d1,f1⟩:∃ old:ByteArray,w6.cell? ⟨g,k * 5,none⟩ = some (.string old) ∧ w6.frozen? ⟨g,k * 5,none⟩ = false:=by
      have h:=Own.cellAt G6.out.gs.own k (by rw [HB.out.1]; omega) 0 (by decide)
      exact ⟨_,h.1,h.2⟩
     have c1:w6.cell? ⟨X,1,none⟩ = some (.slice (some ⟨g,0,none⟩) L c2):=(G6.out.gs.cell (p:=(X,xCs tt (.slice (some ⟨g,0,none⟩) L c2),28)) (by simp)).1 1
     have G7:=Lib.hid (G6.out.modify (enc:=fun x=>x.1.cells x.2) (setNo z6) k 0 (.string z6) (fun x=>rfl) (by decide) (by rw [HB.out.1]; exact hlt) (fun x=>rfl) (fun x=>rfl))
     have HB7:=Lib.hid (show (l.modify k (setNo z6)).length = L ∧ ∀ y ∈ l.modify k (setNo z6),sceneBd y.1 from ⟨by rw [List.length_modify]; exact HB.out.1,fun y hy=>by
      rcases mem_modify hy with h | ⟨u,hu,rfl⟩
      ·exact HB.out.2 y h
      ·exact setNo_bd (HB.out.2 u hu) (by omega)⟩)
     clear G6 HB
     go_wp2
     go_roundw
     case rel=>exact ⟨k + 1,z6,l.modify k (setNo z6),n5,by omega,intNum,rfl,hz6,by omega,HB7,G7⟩
     all_goals (try (simp [intOf] <;> omega))
   ·have c0:=(HG.out.gs.cell (p:=(X,xCs tt (.slice A2 L c2),28)) (by simp)).1
    have e0:wr.cell? ⟨X,0,none⟩ = some (.string tt):=c0 0
    have e1:wr.cell? ⟨X,1,none⟩ = some (.slice A2 L c2):=c0 1
    obtain ⟨d,f⟩:=HG.out.gs.cell (p:=(w.heap.size,xCs ⟨#[]⟩ (.slice none 0 0),28)) (by simp)
    have f0:wr.frozen? ⟨w.heap.size,0,none⟩ = false:=f 0
    have f1:wr.frozen? ⟨w.heap.size,1,none⟩ = false:=f 1
    have d0:wr.cell? ⟨w.heap.size,0,none⟩ = some (.string ⟨#[]⟩):=d 0
    have d1:wr.cell? ⟨w.heap.size,1,none⟩ = some (.slice none 0 0):=d 1
    clear f c0 d
    have q:=HG.out.less (Q:=[(w.heap.size,xCs ⟨#[]⟩ (.slice none 0 0),28)]) (by simp)
    have q0:=q.set (i:=0) svFlat (.string tt) (by simp)
    have q1:=Lib.hid (q0.set (i:=1) svFlat (.slice A2 L c2) (by simp))
    clear q q0
    go_wp2
    refine ⟨rfl,.agg (xCs tt (.slice A2 L c2)),(by rw [results_cell1 rfl]; go_simp; rfl),?_⟩
    exact FIN.out l _ n _ HB.out.1 HB.out.2 q1.out (by omega)
end
section
open Go.RowKit Go.Sort
def PowS (sb:Nat) (w:World):Prop:=PowLaid w ∧ 1 < sb
theorem PowS.start {w:World} (h:PowLaid w):PowS w.heap.size w:=⟨h,pow_lt h⟩
theorem PowS.keep {w w':World} {sb:Nat} (h:PowS sb w) (hk:∀ b,b < sb → w'.heap[b]? = w.heap[b]?):PowS sb w':=⟨pow_block h.1 (hk _ h.2),h.2⟩
theorem PowS.grown {w w':World} {sb:Nat} (h:PowS sb w) (hlt:sb < w.heap.size) (hg:w.grownBy w' (some sb)):PowS sb w':=h.keep fun b hb=>hg.block b (by omega) (by simp; omega)
theorem PowS.pow {w:World} {sb:Nat} (h:PowS sb w):PowLaid w:=h.1
set_option maxRecDepth 100000 in
set_option maxHeartbeats 8000000 in
theorem AnyScript_c (sb:Nat) (k0:Int) (w:World) (hs:Str w sb k0) (hk0:k0 ≤ 3100000000000000000) (hl:PowS sb w) :
  Calls Tryz.prog 4 #[.pointer (some ⟨sb,0,none⟩)] w (Took sb k0 400300 (isSp (fun _=>False) 10010 91 w) w):=by
 have HL:=Lib.hid hl
 have S0:=Lib.hid hs
 have hsb:=hs.lt
 clear hs hl
 have hG:=(GSI.start (R:=svR) (RI:=paraR) (inn:=fun x=>x.1.paras) (pv:=fun x=>x.2) (e:=46) S0.out).new (xCs ⟨#[]⟩ (.slice none 0 0)) 28
 go_enter Tryz.func4,Tryz.ntmps4
 go_upto_region 1 with (fail)
 generalize hW:w.alloc (.cells #[.string ⟨#[]⟩,.slice none 0 0] 28) = wR
 have G0:=Lib.hid (show ScG w sb [] (.slice none 0 0) [(w.heap.size,xCs ⟨#[]⟩ (.slice none 0 0),28)] k0 wR by rw [← hW]; exact hG)
 have hRz:wR.heap.size = w.heap.size + 1:=by rw [← hW]; simp
 clear hG hW
 go_wp2_with fail
 refine (Script_c sb k0 wR G0.out.gs.str (by omega)).mono ?_
 rintro e w1 ⟨v1,n1,rfl,⟨x,l,sv,rfl,hxl,hown,hinn,hbd⟩,hn1,hs1,hg1⟩
 have hlL:l.length ≤ 90:=by have h:=hbd.2.1; rw [hxl] at h; simpa using h
 have hbl:∀ y ∈ l,sceneBd y.1:=fun y hy=>hbd.2.2 _ (by rw [hxl]; exact List.mem_map.2 ⟨y,hy,rfl⟩)
 have htz:x.title.size ≤ 1000:=hbd.1
 have h1:ScG w sb l sv [(w.heap.size,xCs ⟨#[]⟩ (.slice none 0 0),28)] n1 w1:=by
  have h0:=(G0.out.turn hg1 hs1).gs
  refine ⟨⟨hs1,h0.gr,hown.less (by omega),h0.lt,fun p hp=>⟨(h0.prv p hp).1,(h0.prv p hp).2.1,fun e=>?_⟩⟩,fun y hy=>?_⟩
  ·have:=hown.block _ e; rw [List.mem_singleton] at hp; subst hp; dsimp only at this; omega
  ·exact (hinn y hy).more fun q hq=>⟨by have:=hq.1; omega,hq.2.1,fun p hp=>(by rw [List.mem_singleton] at hp; subst hp; have:=hq.1; dsimp only; omega),hq.2.2.2⟩
 obtain ⟨A1,c1,hv1,_,_⟩:=(hown.sli (F:=fun _=>True) (fun _ _ _=>trivial) (fun _ _=>trivial)).form
 subst hv1
 clear hown hinn hbd hs1 hg1 G0
 generalize x.title = tt at *
 have hXw:w1.heap.size ≠ w.heap.size:=by have:=h1.gs.plt (p:=(w.heap.size,xCs ⟨#[]⟩ (.slice none 0 0),28)) (by simp); dsimp only at this; omega
 have hXs:sb < w1.heap.size:=by have:=h1.gs.size; omega
 have hG3:=h1.new (xCs tt (.slice A1 l.length c1)) 28
 have HBL:=Lib.hid hbl
 clear h1 hbl hxl
 obtain ⟨L,hL⟩:∃ L,l.length = L:=⟨_,rfl⟩
 have HLL:=Lib.hid hL
 rw [hL] at hG3 hlL
 rw [show xCs tt (.slice A1 l.length c1) = #[.string tt,.slice A1 L c1] by rw [hL]; rfl]
 clear hL
 go_upto_region 2 with (fail)
 generalize hW:w1.alloc (.cells #[.string tt,.slice A1 L c1] 28) = wX
 have G3:=Lib.hid (show ScG w sb l (.slice A1 L c1) [(w1.heap.size,xCs tt (.slice A1 L c1),28),(w.heap.size,xCs ⟨#[]⟩ (.slice none 0 0),28)] n1 wX by rw [← hW]; exact hG3)
 clear hG3 hW
 generalize w1.heap.size = X at *
 go_wp2_with fail
 refine (next_c sb n1 4 _ G3.out.gs.str (by omega) (by decide) (by decide)).mono ?_
 rintro e w4 ⟨v4,n4,rfl,⟨m4,hm0,hm1,rfl⟩,hn4,hs4,hg4⟩
 have G4:=Lib.hid (G3.out.turn hg4 hs4)
 clear G3 hs4 hg4
 go_upto_block 0 with (fail)
 go_cut [] (fun wx=>∃ (l:List (Scene × Value)) (A:Option Addr) (c:Nat) (n:Int),n ≤ k0 + 400200 ∧ Hid (l.length = L ∧ ∀ y ∈ l,sceneBd y.1) ∧ Hid (ScG w sb l (.slice A L c) [(X,xCs tt (.slice A L c),28),(w.heap.size,xCs ⟨#[]⟩ (.slice none 0 0),28)] n wx))
 case first=>
  have HB0:=Lib.hid (And.intro HLL.out HBL.out)
  have hzX:X < w4.heap.size:=G4.out.gs.plt (p:=(X,xCs tt (.slice A1 L c1),28)) (by simp)
  by_cases h0:m4 = 0
  ·have t0:(m4 == 0) = true:=beq_iff_eq.2 h0
   clear h0
   have c0:=(G4.out.gs.cell (p:=(X,xCs tt (.slice A1 L c1),28)) (by simp)).1
   have e0:w4.cell? ⟨X,0,none⟩ = some (.string tt):=c0 0
   have e1:w4.cell? ⟨X,1,none⟩ = some (.slice A1 L c1):=c0 1
   clear c0
   have hsl:=(G4.out.gs.own.sli (F:=fun q=>q < w4.heap.size) (fun q _ h=>h) (fun g hg=>(G4.out.gs.own.block g hg).2))
   have HN:=Numbered_c tt l (.slice A1 L c1) w4 hsl (fun q h=>h) (by rw [HLL.out]; omega) (inn_slice G4.out.inn)
   rw [show xCs tt (.slice A1 L c1) = #[.string tt,.slice A1 L c1] from rfl] at HN
   have HN:=Lib.hid HN
   clear hsl
   go_wp2_with fail
   refine HN.out.mono ?_
   rintro e w5 ⟨v5,rfl,hown5,hb5⟩
   have hG5:=GSI.take G4.out hb5 hown5 (numbTo_inn (by rw [HLL.out]; omega) G4.out.inn)
   have hbl5:=numbTo_bd (k:=l.length) (by rw [HLL.out]; omega) HBL.out
   have hl5:(numbTo l.length l).length = L:=(numbTo_len _ _).trans HLL.out
   generalize numbTo l.length l = l5 at *
   obtain ⟨A5,c5,hv5,_,_⟩:=(hown5.sli (F:=fun _=>True) (fun _ _ _=>trivial) (fun _ _=>trivial)).form
   rw [hl5] at hv5
   subst hv5
   obtain ⟨d,f⟩:=hG5.gs.cell (p:=(X,xCs tt (.slice A1 L c1),28)) (by simp)
   have d0:w5.cell? ⟨X,0,none⟩ = some (.string tt):=d 0
   have d1:w5.cell? ⟨X,1,none⟩ = some (.slice A1 L c1):=d 1
   have f0:w5.frozen? ⟨X,0,none⟩ = false:=f 0
   have f1:w5.frozen? ⟨X,1,none⟩ = false:=f 1
   have G6:=Lib.hid (show ScG w sb l5 (.slice A5 L c5) [(X,xCs tt (.slice A5 L c5),28),(w.heap.size,xCs ⟨#[]⟩ (.slice none 0 0),28)] n4 ((w5.setCell ⟨X,0,none⟩ (.string tt)).setCell ⟨X,1,none⟩ (.slice A5 L c5)) from (hG5.set (i:=0) svFlat (.string tt) (by simpa using hXw.symm)).set (i:=1) svFlat (.slice A5 L c5) (by simpa using hXw.symm))
   have HB5:=Lib.hid (And.intro hl5 hbl5)
   clear hown5 hG5 d f hb5 e0 e1 HN hl5 hbl5 G4
   rw [show xCs tt (.slice A5 L c5) = #[.string tt,.slice A5 L c5] from rfl]
   go_wp2
   go_meet
   exact ⟨l5,A5,c5,n4,by omega,HB5,G6⟩
  ·have t0:(m4 == 0) = false:=beq_eq_false_iff_ne.2 h0
   clear h0
   by_cases h1:m4 = 1
   ·have t1:(m4 == 1) = true:=beq_iff_eq.2 h1
    clear h1
    have e1:w4.cell? ⟨X,1,none⟩ = some (.slice A1 L c1):=(G4.out.gs.cell (p:=(X,xCs tt (.slice A1 L c1),28)) (by simp)).1 1
    go_wp2
    go_loopw [18,4] (fun i _ wr=>∃ (k:Nat) (l:List (Scene × Value)) (n:Int),k ≤ L ∧ i = .int .i64 k ∧ n ≤ k0 + 400010 + (k:Int) ∧ Hid (l.length = L ∧ ∀ y ∈ l,sceneBd y.1)
     ∧ Hid (ScG w sb l (.slice A1 L c1) [(X,xCs tt (.slice A1 L c1),28),(w.heap.size,xCs ⟨#[]⟩ (.slice none 0 0),28)] n wr)) (fun i _ _=>L - (intOf i).toNat)
    case atStart=>exact ⟨0,l,n4,by omega,rfl,by omega,HB0,G4⟩
    case round=>
     clear G4 HB0 e1 hzX HBL HLL
     obtain ⟨k,l,n,hk,rfl,hn,HB,HG⟩:=hrel
     by_cases hlt:k < L
     ·go_wp2_with fail
      refine (flip_c sb n 2 wr HG.out.gs.str (by omega) (by decide) (by decide)).mono ?_
      rintro e w5 ⟨v5,n5,rfl,⟨b5,rfl⟩,hn5,hs5,hg5⟩
      have G5:=Lib.hid (HG.out.turn hg5 hs5)
      clear hs5 hg5 HG
      cases b5 with
      | false=>
       go_wp2
       go_roundw
       case rel=>exact ⟨k + 1,l,n5,by omega,intNum,by omega,HB,G5⟩
       all_goals (try (simp [intOf] <;> omega))
      | true=>
       go_upto_region 10 with (fail)
       obtain ⟨g,cap,hv,hg1,hg2⟩:=Own.some_ G5.out.gs.own (by rw [HB.out.1]; omega)
       rw [HB.out.1] at hv
       injection hv with hv1 _ hv3
       subst hv1
       subst hv3
       have c1x:w5.cell? ⟨X,1,none⟩ = some (.slice (some ⟨g,0,none⟩) L c1):=(G5.out.gs.cell (p:=(X,xCs tt (.slice (some ⟨g,0,none⟩) L c1),28)) (by simp)).1 1
       obtain ⟨ι,ff,hne,hff,hfS⟩:=family (fun W=>W.cell? ⟨X,1,none⟩ = some (.slice (some ⟨g,0,none⟩) L c1)) w5 c1x
       have HFS:=Lib.hid hfS
       have HZ:=Lib.hid c1x
       have hG6:ScG w sb l (.slice (some ⟨g,0,none⟩) L c1) [(X,xCs tt (.slice (some ⟨g,0,none⟩) L c1),28),(w.heap.size,xCs ⟨#[]⟩ (.slice none 0 0),28)] n5 w5.drew:=⟨G5.out.gs.drew,fun y hy=>(G5.out.inn y hy).drew⟩
       have HIT:=Lib.hid (itoa_c ((k:Int) + 1) w5.drew ⟨by omega,by omega⟩ (HL.out.grown hsb hG6.gs.gr).pow)
       have G6:=Lib.hid hG6
       clear hfS c1x hG6 G5
       refine wp_region_segs2 [5] [] [] [([0,2,3,4],[1],5),([6,7],[],8)] (by kernel_rfl) (by kernel_rfl) (fun _ _ _ dd _ h=>by cases dd <;> exact h) (fun W=>∃ p:ι,W = ff p) (HFS.out _ HZ.out) ?_
       refine wpSegs2_step (by simp only [pick,List.getElem?_cons_succ,List.getElem?_cons_zero]; rfl) (by simp only [pick,List.getElem?_cons_succ,List.getElem?_cons_zero]; rfl) rfl (fun K0 hK0 L0 hL0=>?_)
       repeat (first | go_big_quiet_step (fail) | quiet_step (fail))
       refine wpQuiet_nil (hL0 _ ?_)
       repeat (first | go_big_quiet_step (fail) | quiet_step (fail))
       refine wpQuiet_nil ?_
       go_simp
       refine HIT.out.mono ?_
       rintro e w7 ⟨rfl,hb7⟩
       have hG7:=G6.out.below hb7
       have hzs:(⟨(Lib.itoa ((k:Int) + 1)).toArray⟩:ByteArray).size ≤ 1000:=Nat.le_trans (itoa_sz _ ⟨by omega,by omega⟩) (by decide)
       generalize (⟨(Lib.itoa ((k:Int) + 1)).toArray⟩:ByteArray) = z7 at *
       have c7:w7.cell? ⟨X,1,none⟩ = some (.slice (some ⟨g,0,none⟩) L c1):=(hG7.gs.cell (p:=(X,xCs tt (.slice (some ⟨g,0,none⟩) L c1),28)) (by simp)).1 1
       obtain ⟨old,d1,f1⟩:∃ old:ByteArray,w7.cell? ⟨g,k * 5,none⟩ = some (.string old) ∧ w7.frozen? ⟨g,k * 5,none⟩ = false:=by
        have h:=Own.cellAt hG7.gs.own k (by rw [HB.out.1]; omega) 0 (by decide)
        exact ⟨_,h.1,h.2⟩
       refine hK0 (fun W=>∃ p:ι,W = ff p) _ _ (fun _ h=>h) (HFS.out _ c7) ?_
       have G8:=Lib.hid (hG7.modify (enc:=fun x=>x.1.cells x.2) (setNo z7) k 0 (.string z7) (fun x=>rfl) (by decide) (by rw [HB.out.1]; exact hlt) (fun x=>rfl) (fun x=>rfl))
       have HB8:=Lib.hid (show (l.modify k (setNo z7)).length = L ∧ ∀ y ∈ l.modify k (setNo z7),sceneBd y.1 from ⟨by rw [List.length_modify]; exact HB.out.1,fun y hy=>by
        rcases mem_modify hy with h | ⟨u,hu,rfl⟩
        ·exact HB.out.2 y h
        ·exact setNo_bd (HB.out.2 u hu) hzs⟩)
       clear G6 HB hG7 HZ HFS HIT hb7 hff
       refine wpSegs2_last (by simp only [pick,List.getElem?_cons_succ,List.getElem?_cons_zero]; rfl) (by simp only [pick,List.getElem?_cons_succ,List.getElem?_cons_zero]; rfl) rfl (by rfl) (fun K1 hK1 L1 hL1=>?_)
       repeat (first | go_big_quiet_step (fail) | quiet_step (fail))
       refine wpQuiet_nil (hL1 _ ?_)
       repeat (first | go_big_quiet_step (fail) | quiet_step (fail))
       refine wpQuiet_nil ?_
       go_simp
       refine hK1 _ _ (wpSegs2_end ?_)
       go_wp2
       go_roundw
       case rel=>exact ⟨k + 1,l.modify k (setNo z7),n5,by omega,intNum,by omega,HB8,G8⟩
       all_goals (try (simp [intOf] <;> omega))
     ·go_wp2
      go_meet
      exact ⟨l,A1,c1,n,by omega,HB,HG⟩
   ·have t1:(m4 == 1) = false:=beq_eq_false_iff_ne.2 h1
    clear h1
    go_wp2
    go_meet
    exact ⟨l,A1,c1,n4,by omega,HB0,G4⟩
 case rest=>
 clear G4 HBL HLL
 obtain ⟨l5,A5,c5,n5,hn5,HB5,G5⟩:=hcut
 go_wp2_with fail
 refine (flip_c sb n5 5 wc G5.out.gs.str (by omega) (by decide) (by decide)).mono ?_
 rintro e w6 ⟨v6,n6,rfl,⟨b6,rfl⟩,hn6,hs6,hg6⟩
 have G6:=Lib.hid (G5.out.turn hg6 hs6)
 clear hs6 hg6 G5
 obtain ⟨x,xf⟩:=G6.out.gs.cell (p:=(X,xCs tt (.slice A5 L c5),28)) (by simp)
 obtain ⟨y,yf⟩:=G6.out.gs.cell (p:=(w.heap.size,xCs ⟨#[]⟩ (.slice none 0 0),28)) (by simp)
 have x0:w6.cell? ⟨X,0,none⟩ = some (.string tt):=x 0
 have x1:w6.cell? ⟨X,1,none⟩ = some (.slice A5 L c5):=x 1
 have y0:w6.cell? ⟨w.heap.size,0,none⟩ = some (.string ⟨#[]⟩):=y 0
 have y1:w6.cell? ⟨w.heap.size,1,none⟩ = some (.slice none 0 0):=y 1
 have f0:w6.frozen? ⟨w.heap.size,0,none⟩ = false:=yf 0
 have f1:w6.frozen? ⟨w.heap.size,1,none⟩ = false:=yf 1
 have hB10:=Lib.hid (show ∀ y ∈ l5,sceneBm 10000 y.1 from fun y hy=>sceneBm.of (HB5.out.2 y hy))
 cases b6 with
 | false=>
  clear x y xf yf
  have q1:=Lib.hid (((G6.out.less (Q:=[(w.heap.size,xCs ⟨#[]⟩ (.slice none 0 0),28)]) (by simp)).set (i:=0) svFlat (.string tt) (by simp)).set (i:=1) svFlat (.slice A5 L c5) (by simp))
  go_wp2
  refine ⟨rfl,.agg (xCs tt (.slice A5 L c5)),(by rw [results_cell1 rfl]; go_simp; rfl),?_⟩
  refine ⟨_,n6,rfl,⟨tt,l5,_,rfl,q1.out.gs.own.sliF (enc:=fun x:Scene × Value=>x.1.cells x.2) (hn:=fun _=>rfl) (fun g e=>.inr (q1.out.gs.own.block g e)),fun y hy=>(q1.out.inn y hy).more fun q hq=>.inr ⟨hq.1,hq.2.1⟩,htz,by rw [HB5.out.1]; omega,fun y hy=>(hB10.out y hy).up (by omega)⟩,by omega,q1.out.gs.str,q1.out.gs.gr⟩
 | true=>
  have hX6:X < w6.heap.size:=G6.out.gs.plt (p:=(X,xCs tt (.slice A5 L c5),28)) (by simp)
  have hz6:w.heap.size < w6.heap.size:=G6.out.gs.plt (p:=(w.heap.size,xCs ⟨#[]⟩ (.slice none 0 0),28)) (by simp)
  have hF:Hid (∀ q,(w.heap.size ≤ q ∧ q < w6.heap.size ∧ q ≠ X ∧ q ≠ w.heap.size) → q < w6.heap.size ∧ q ≠ sb):=fun q hq=>⟨hq.2.1,by have:=hq.1; omega⟩
  have hsl:Sli svR w6 (fun q=>w.heap.size ≤ q ∧ q < w6.heap.size ∧ q ≠ X ∧ q ≠ w.heap.size) l5 (.slice A5 L c5):=G6.out.gs.own.sliF (enc:=fun x:Scene × Value=>x.1.cells x.2) (hn:=fun _=>rfl) (fun g e=>⟨(G6.out.gs.own.block g e).1,(G6.out.gs.own.block g e).2,fun h=>(G6.out.gs.prv (X,xCs tt (.slice A5 L c5),28) (by simp)).2.2 (by rw [e,h]),fun h=>(G6.out.gs.prv (w.heap.size,xCs ⟨#[]⟩ (.slice none 0 0),28) (by simp)).2.2 (by rw [e,h])⟩)
  have hin:∀ y ∈ l5,Sli paraR w6 (fun q=>w.heap.size ≤ q ∧ q < w6.heap.size ∧ q ≠ X ∧ q ≠ w.heap.size) y.1.paras y.2:=fun y hy=>(G6.out.inn y hy).more fun q hq=>⟨hq.1,hq.2.1,hq.2.2.1 (X,xCs tt (.slice A5 L c5),28) (by simp),hq.2.2.1 (w.heap.size,xCs ⟨#[]⟩ (.slice none 0 0),28) (by simp)⟩
  have HSC:=SpoiledScript_c (F:=fun q=>w.heap.size ≤ q ∧ q < w6.heap.size ∧ q ≠ X ∧ q ≠ w.heap.size) sb 10000 90 n6 tt l5 (.slice A5 L c5) w6 G6.out.gs.str (by omega) hsl hin hF.out htz (by rw [HB5.out.1]; omega) (by decide) hB10.out (by decide) (by decide)
  have HSC:=Lib.hid HSC
  clear hsl hin x y xf yf f0 f1 y0 y1
  go_wp2_with fail
  refine HSC.out.mono ?_
  rintro e w7 ⟨v7,n7,rfl,⟨t7,l7,sv7,rfl,hS7,hI7,ht7,hl7,hb7⟩,hn7,hs7,hg7⟩
  have hG7:=G6.out.turn hg7 hs7
  obtain ⟨x,xf⟩:=hG7.gs.cell (p:=(X,xCs tt (.slice A5 L c5),28)) (by simp)
  obtain ⟨y,yf⟩:=hG7.gs.cell (p:=(w.heap.size,xCs ⟨#[]⟩ (.slice none 0 0),28)) (by simp)
  have z0:w7.cell? ⟨X,0,none⟩ = some (.string tt):=x 0
  have z1:w7.cell? ⟨X,1,none⟩ = some (.slice A5 L c5):=x 1
  have g0:w7.frozen? ⟨X,0,none⟩ = false:=xf 0
  have g1:w7.frozen? ⟨X,1,none⟩ = false:=xf 1
  have y0:w7.cell? ⟨w.heap.size,0,none⟩ = some (.string ⟨#[]⟩):=y 0
  have y1:w7.cell? ⟨w.heap.size,1,none⟩ = some (.slice none 0 0):=y 1
  have f0:w7.frozen? ⟨w.heap.size,0,none⟩ = false:=yf 0
  have f1:w7.frozen? ⟨w.heap.size,1,none⟩ = false:=yf 1
  have q1:=(hG7.gs.set (i:=0) svFlat (.string t7) (by simpa using hXw.symm)).set (i:=1) svFlat sv7 (by simpa using hXw.symm)
  have q2:=Lib.hid (((q1.less (Q:=[(w.heap.size,xCs ⟨#[]⟩ (.slice none 0 0),28)]) (by simp)).set (i:=0) svFlat (.string t7) (by simp)).set (i:=1) svFlat sv7 (by simp))
  have hkeep:∀ q,SpG (fun q=>w.heap.size ≤ q ∧ q < w6.heap.size ∧ q ≠ X ∧ q ≠ w.heap.size) w6 w7 q → ((((w7.setCell ⟨X,0,none⟩ (.string t7)).setCell ⟨X,1,none⟩ sv7).setCell ⟨w.heap.size,0,none⟩ (.string t7)).setCell ⟨w.heap.size,1,none⟩ sv7).heap[q]? = w7.heap[q]?:=fun q hq=>by
   have h2:q ≠ X ∧ q ≠ w.heap.size:=by
    rcases hq with h | h
    ·exact h.2.2
    ·exact ⟨by omega,by omega⟩
   exact (Below.heap_setCell _ _ _ _ h2.2).trans ((Below.heap_setCell _ _ _ _ h2.2).trans ((Below.heap_setCell _ _ _ _ h2.1).trans (Below.heap_setCell _ _ _ _ h2.1)))
  have hzz:((((w7.setCell ⟨X,0,none⟩ (.string t7)).setCell ⟨X,1,none⟩ sv7).setCell ⟨w.heap.size,0,none⟩ (.string t7)).setCell ⟨w.heap.size,1,none⟩ sv7).heap.size = w7.heap.size:=by simp [World.setCell]
  have hmore:∀ q,SpG (fun q=>w.heap.size ≤ q ∧ q < w6.heap.size ∧ q ≠ X ∧ q ≠ w.heap.size) w6 w7 q → SpG (fun _=>False) w ((((w7.setCell ⟨X,0,none⟩ (.string t7)).setCell ⟨X,1,none⟩ sv7).setCell ⟨w.heap.size,0,none⟩ (.string t7)).setCell ⟨w.heap.size,1,none⟩ sv7) q:=fun q hq=>by
   have hz7:=hg7.size
   refine .inr ?_
   rw [hzz]
   rcases hq with h | h
   ·exact ⟨h.1,by have:=h.2.1; omega⟩
   ·exact ⟨by have:=h.1; omega,h.2⟩
  have HFN:=Lib.hid (show Took sb k0 400300 (isSp (fun _=>False) 10010 91 w) w (.returned (.agg (xCs t7 sv7))) ((((w7.setCell ⟨X,0,none⟩ (.string t7)).setCell ⟨X,1,none⟩ sv7).setCell ⟨w.heap.size,0,none⟩ (.string t7)).setCell ⟨w.heap.size,1,none⟩ sv7) from
   ⟨_,n7,rfl,⟨t7,l7,sv7,rfl,(hS7.keep hkeep).more hmore,fun y hy=>((hI7 y hy).keep hkeep).more hmore,ht7,hl7,hb7⟩,by omega,q2.out.str,q2.out.gr⟩)
  obtain ⟨A7,c7,hv7,_,_⟩:=hS7.form
  subst hv7
  clear hS7 hI7 hb7 hkeep hmore hzz q1 q2 hG7 x y xf yf hg7 hs7 HSC x0 x1
  rw [show xCs t7 (.slice A7 l7.length c7) = #[.string t7,.slice A7 l7.length c7] from rfl]
  go_wp2
  refine ⟨rfl,.agg (xCs t7 (.slice A7 l7.length c7)),(by rw [results_cell1 rfl]; go_simp; rfl),?_⟩
  exact HFN.out
end
section
open Go.RowKit Go.Sort
section
variable {W0 wx wy:World} {sb X N M:Nat} {t:ByteArray} {l:List (Scene × Value)} {v:Value} {n n':Int}
end
end
section
open Go.RowKit Go.Sort
structure Sct (W0:World) (E:Nat → Prop) (N M:Nat) (t:ByteArray) (l:List (Scene × Value)) (v:Value) (wx:World):Prop where
 sli:Sli svR wx (fun q=>W0.heap.size ≤ q ∧ q < wx.heap.size ∧ ¬ E q) l v
 par:∀ y ∈ l,Sli paraR wx (fun q=>W0.heap.size ≤ q ∧ q < wx.heap.size ∧ ¬ E q) y.1.paras y.2
 tl:t.size ≤ 1000
 len:l.length ≤ M
 bd:∀ y ∈ l,sceneBm N y.1
section
variable {W0 wx wy:World} {E E':Nat → Prop} {N M N' M':Nat} {t:ByteArray} {l:List (Scene × Value)} {v:Value}
theorem Sct.keep (h:Sct W0 E N M t l v wx) (hk:∀ q,W0.heap.size ≤ q → q < wx.heap.size → ¬ E q → wy.heap[q]? = wx.heap[q]?) (hz:wx.heap.size ≤ wy.heap.size) (hE:∀ q,q < wx.heap.size → E' q → E q):Sct W0 E' N M t l v wy:=by
 have hm:∀ q,(W0.heap.size ≤ q ∧ q < wx.heap.size ∧ ¬ E q) → (W0.heap.size ≤ q ∧ q < wy.heap.size ∧ ¬ E' q):=fun q hq=>⟨hq.1,Nat.lt_of_lt_of_le hq.2.1 hz,fun e=>hq.2.2 (hE q hq.2.1 e)⟩
 exact ⟨(h.sli.keep fun q hq=>hk q hq.1 hq.2.1 hq.2.2).more hm,fun y hy=>((h.par y hy).keep fun q hq=>hk q hq.1 hq.2.1 hq.2.2).more hm,h.tl,h.len,h.bd⟩
theorem Sct.turn {sb:Nat} (h:Sct W0 E N M t l v wx) (hlt:sb < W0.heap.size) (hg:wx.grownBy wy (some sb)):Sct W0 E N M t l v wy:=
 h.keep (fun q h1 h2 _=>hg.block q h2 (by simp; omega)) hg.size (fun _ _ h=>h)
theorem Sct.alloc (h:Sct W0 E N M t l v wx) (o:Obj) (hE:∀ q,q < wx.heap.size → E' q → E q):Sct W0 E' N M t l v (wx.alloc o):=h.keep (fun q _ h2 _=>Below.heap_alloc wx o q h2) (by simp) hE
theorem Sct.set (h:Sct W0 E N M t l v wx) (b i:Nat) (u:Value) (hb:E b):Sct W0 E N M t l v (wx.setCell ⟨b,i,none⟩ u):=h.keep (fun q _ _ h3=>Below.heap_setCell wx _ _ q (fun e=>h3 (by rw [e]; exact hb))) (by simp [World.setCell]) (fun _ _ h=>h)
theorem Sct.scl (h:Sct W0 E N M t l v wx) (hM:M ≤ 1000000) (hN:N ≤ 1000000):ScL wx (fun q=>W0.heap.size ≤ q ∧ q < wx.heap.size ∧ ¬ E q) t l v:=
 ⟨h.sli,h.par,fun q hq=>hq.2.1,Nat.le_trans h.tl (by decide),Nat.le_trans h.len hM,fun y hy=>⟨Nat.le_trans (h.bd y hy).1 (by decide),Nat.le_trans (h.bd y hy).2.1 (by decide),Nat.le_trans (h.bd y hy).2.2.1 (by decide),fun p hp=>Nat.le_trans ((h.bd y hy).2.2.2 p hp) hN⟩⟩
theorem Sct.any (hs:isSp (fun _=>False) N M W0 (.agg (xCs t v)) wx):∃ l,Sct W0 (fun _=>False) N M t l v wx:=by
 obtain ⟨t',l,sv,e,h1,h2,h3,h4,h5⟩:=hs
 obtain ⟨rfl,rfl⟩:t' = t ∧ sv = v:=by injection e with e; simp [xCs] at e; exact ⟨e.1.symm,e.2.symm⟩
 have hm:∀ q,SpG (fun _=>False) W0 wx q → W0.heap.size ≤ q ∧ q < wx.heap.size ∧ ¬ False:=fun q hq=>by
  rcases hq with hq | hq
  ·cases hq
  ·exact ⟨hq.1,hq.2,id⟩
 exact ⟨l,h1.more hm,fun y hy=>(h2 y hy).more hm,h3,h4,h5⟩
end
end
end Go.Proofs.YtaoobkgepcikiaaGreatDoor
