/- Texts packed: CutP. -/
import Derived.Test.YtaoobkgepcikiaaGreatDoorSc18
import Derived.Test.YtaoobkgepcikiaaGreatDoorSc14
import Derived.Test.YtaoobkgepcikiaaGreatDoorSc01
namespace Go.Proofs.YtaoobkgepcikiaaGreatDoor
set_option linter.unusedVariables false
open Go.RowKit Go.Sort
def cutS (l:List Scene) (f t:Nat):List Scene:=((l.drop f).take (t - f)).modify 0 fun s=>{ s with time:=tmAt l f }
theorem BI.take {w wx wy:World} {l:List (Scene × Value)} {v:Value} {P:List (Nat × Array Value × TypeId)} (h:BI w [] (.slice none 0 0) P wx) (hc:BI wx l v [] wy):BI w l v P wy:=
 ⟨h.bo.take hc.bo.bel hc.bo.own (hc.bo.own.less h.bo.size),fun y hy=>(hc.inn y hy).more fun q hq=>⟨Nat.le_trans h.bo.size hq.1,hq.2.1,fun p hp=>by have:=h.bo.plt hp; have:=hq.1; omega,hq.2.2.2⟩⟩
theorem BI.put {w wx wy:World} {l l':List (Scene × Value)} {v v':Value} {P:List (Nat × Array Value × TypeId)} (h:BI w l v P wx) (hb:Below wx.heap.size wx wy) (hown:Own svR wy wx.heap.size wx.heap.size 46 l' v') (hs:∀ y ∈ l',y ∈ l):BI w l' v' P wy:=
 ⟨⟨h.bo.bel.trans (hb.mono h.bo.size),hown.less h.bo.size,fun p hp=>⟨(hb.block _ (h.bo.plt hp)).trans (h.bo.prv p hp).1,(h.bo.prv p hp).2.1,fun e=>by have:=hown.block _ e; have:=h.bo.plt hp; omega⟩⟩,
  fun y hy=>((h.inn y (hs y hy)).below hb (fun q hq=>hq.2.1)).more fun q hq=>⟨hq.1,Nat.lt_of_lt_of_le hq.2.1 hb.size,hq.2.2.1,fun e=>by have:=hown.block _ e; have:=hq.2.1; omega⟩⟩
theorem cutS_mod (l:List Scene) (f t:Nat) (g:Scene → Scene) (hg:∀ (h:f < l.length),g l[f] = { l[f] with time:=tmAt l f }):((l.modify f g).take t).drop f = cutS l f t:=by
 unfold cutS
 apply List.ext_getElem?
 intro i
 rw [List.getElem?_drop,List.getElem?_take,List.getElem?_modify,List.getElem?_modify,List.getElem?_take,List.getElem?_drop]
 by_cases hi:f + i < t
 ·rw [if_pos hi,if_pos (by omega)]
  by_cases h0:i = 0
  ·subst h0
   simp only [Nat.add_zero]
   cases h:l[f]? with
   | none=>rfl
   | some x=>
    obtain ⟨hf,rfl⟩:=List.getElem?_eq_some_iff.1 h
    simp [hg hf]
  ·simp [show ¬ f = f + i from by omega,show ¬ 0 = i from fun e=>h0 e.symm,h0]
 ·rw [if_neg hi,if_neg (by omega)]
  rfl
theorem cutS_now (l:List Scene) (f t:Nat) (h:∀ (h:f < l.length),f < t → l[f].time = tmAt l f) (hle:f ≤ t):(l.take t).drop f = cutS l f t:=by
 by_cases hft:f < t
 ·have:=cutS_mod l f t id (fun hf=>by
   show l[f] = _
   rw [← h hf hft])
  rw [← this]
  congr 2
  apply List.ext_getElem?
  intro i
  rw [List.getElem?_modify]
  cases l[i]? <;> simp
 ·unfold cutS
  rw [show t - f = 0 by omega,List.take_zero,List.drop_eq_nil_of_le (by rw [List.length_take]; omega)]
  rfl
def CtP (x:Script) (from_ to_:Int) (w:World) (e:Ending) (w':World):Prop:=∃ (t:ByteArray) (l:List (Scene × Value)) (v:Value) (E:Int),e = .returned (.tuple #[.agg (xCs t v),.int .i64 E]) ∧ BI w l v [] w' ∧
 ((¬ chkE x = 0 ∧ E = chkE x) ∨ (chkE x = 0 ∧ (from_ < 0 ∨ to_ < from_ ∨ (x.scenes.length:Int) < to_) ∧ E = 1) ∨ (chkE x = 0 ∧ 0 ≤ from_ ∧ from_ ≤ to_ ∧ to_ ≤ x.scenes.length ∧ E = 0 ∧ t = x.title ∧ l.map (·.1) = cutS x.scenes from_.toNat to_.toNat))
set_option maxRecDepth 100000 in
set_option maxHeartbeats 8000000 in
theorem Cut_c {F:Nat → Prop} (t:ByteArray) (ls:List (Scene × Value)) (v:Value) (w:World) (h:ScL w F t ls v) (hl:ls.length ≤ 1000) (hm:MaxLaid w) (fr to_:Int) (hfr:-10 ≤ fr ∧ fr ≤ 10000) (hto:-10 ≤ to_ ∧ to_ ≤ 10000) :
  Calls Tryz.prog 49 #[.agg #[.string t,v],.int .i64 fr,.int .i64 to_] w (CtP ⟨t,ls.map (·.1)⟩ fr to_ w):=by
 obtain ⟨A,c,rfl,hlc,hcm⟩:=h.sli.form
 obtain ⟨L,hL⟩:∃ L,ls.length = L:=⟨_,rfl⟩
 have HL:=Lib.hid hL
 rw [hL] at h hlc hl ⊢
 have H:=Lib.hid h
 have HM:=Lib.hid hm
 clear h hm hL
 go_enter Tryz.func49,Tryz.ntmps49
 go_upto_region 1 with (fail)
 have hG:BI w [] (.slice none 0 0) [(w.heap.size + 1,xCs ⟨#[]⟩ (.slice none 0 0),28),(w.heap.size,xCs t (.slice A L c),28)] ((w.alloc (.cells (xCs t (.slice A L c)) 28)).alloc (.cells (xCs ⟨#[]⟩ (.slice none 0 0)) 28)):=by
  have h:=((BI.start w).new (xCs t (.slice A L c)) 28).new (xCs ⟨#[]⟩ (.slice none 0 0)) 28
  rw [show (w.alloc (.cells (xCs t (.slice A L c)) 28)).heap.size = w.heap.size + 1 by simp] at h
  exact h
 generalize hW:(w.alloc (.cells #[.string t,.slice A L c] 28)).alloc (.cells #[.string ⟨#[]⟩,.slice none 0 0] 28) = w1
 have G1:=Lib.hid (show BI w [] (.slice none 0 0) [(w.heap.size + 1,xCs ⟨#[]⟩ (.slice none 0 0),28),(w.heap.size,xCs t (.slice A L c),28)] w1 by rw [← hW]; exact hG)
 clear hG hW
 obtain ⟨gx,_⟩:=G1.out.cell (p:=(w.heap.size,xCs t (.slice A L c),28)) (by simp)
 have d0:w1.cell? ⟨w.heap.size,0,none⟩ = some (.string t):=gx 0
 have d1:w1.cell? ⟨w.heap.size,1,none⟩ = some (.slice A L c):=gx 1
 have HCK:=Lib.hid (Check_c t ls (.slice A L c) w1 (by have h:=H.out.below G1.out.bo.bel; rw [← HL.out] at h ⊢; exact h) (max_below HM.out G1.out.bo.bel (Nat.le_refl _)))
 clear gx
 go_wp2_with fail
 refine HCK.out.mono ?_
 rintro e w2 ⟨rfl,hb2⟩
 have G2:=Lib.hid (G1.out.below hb2)
 have HE:=Lib.hid (rfl:chkE ⟨t,ls.map (·.1)⟩ = chkE ⟨t,ls.map (·.1)⟩)
 revert HE
 generalize hEg:chkE ⟨t,ls.map (·.1)⟩ = E at *
 intro HE
 have HEG:=Lib.hid hEg
 clear HE hEg hb2 G1 d0 d1 HCK
 obtain ⟨gx,_⟩:=G2.out.cell (p:=(w.heap.size,xCs t (.slice A L c),28)) (by simp)
 obtain ⟨gy,fy⟩:=G2.out.cell (p:=(w.heap.size + 1,xCs ⟨#[]⟩ (.slice none 0 0),28)) (by simp)
 have d0:w2.cell? ⟨w.heap.size,0,none⟩ = some (.string t):=gx 0
 have d1:w2.cell? ⟨w.heap.size,1,none⟩ = some (.slice A L c):=gx 1
 have y0:w2.cell? ⟨w.heap.size + 1,0,none⟩ = some (.string ⟨#[]⟩):=gy 0
 have y1:w2.cell? ⟨w.heap.size + 1,1,none⟩ = some (.slice none 0 0):=gy 1
 have f0:w2.frozen? ⟨w.heap.size + 1,0,none⟩ = false:=fy 0
 have f1:w2.frozen? ⟨w.heap.size + 1,1,none⟩ = false:=fy 1
 clear gx gy fy
 have HNIL:=Lib.hid (fun (E':Int) (hE:(¬ chkE ⟨t,ls.map (·.1)⟩ = 0 ∧ E' = chkE ⟨t,ls.map (·.1)⟩) ∨ (chkE ⟨t,ls.map (·.1)⟩ = 0 ∧ (fr < 0 ∨ to_ < fr ∨ ((ls.map (·.1)).length:Int) < to_) ∧ E' = 1))=>
  show CtP ⟨t,ls.map (·.1)⟩ fr to_ w (.returned (.tuple #[.agg (xCs ⟨#[]⟩ (.slice none 0 0)),.int .i64 E'])) ((w2.setCell ⟨w.heap.size + 1,0,none⟩ (.string ⟨#[]⟩)).setCell ⟨w.heap.size + 1,1,none⟩ (.slice none 0 0)) from
   ⟨⟨#[]⟩,[],.slice none 0 0,E',rfl,(((G2.out.less (Q:=[(w.heap.size + 1,xCs ⟨#[]⟩ (.slice none 0 0),28)]) (by simp)).set (i:=0) (.string ⟨#[]⟩) (by simp)).set (i:=1) (.slice none 0 0) (by simp)).less (by simp),hE.imp id fun h=>.inl h⟩)
 rw [HEG.out] at HNIL
 by_cases hE0:E = 0
 case neg=>
  have q1:(E == 0) = false:=beq_eq_false_iff_ne.2 hE0
  have HNN:=Lib.hid (HNIL.out E (.inl ⟨hE0,rfl⟩))
  clear HNIL hE0
  go_wp2
  refine ⟨rfl,.tuple #[.agg (xCs ⟨#[]⟩ (.slice none 0 0)),.int .i64 E],(by rw [results_cell_tmp rfl]; go_simp; rfl),?_⟩
  exact HNN.out
 subst hE0
 have HN1:=Lib.hid (fun hx=>HNIL.out 1 (.inr ⟨rfl,hx,rfl⟩))
 clear HNIL
 by_cases hfr0:fr < 0
 case pos=>
  have HNN:=Lib.hid (HN1.out (.inl hfr0))
  clear HN1
  go_wp2
  refine ⟨rfl,.tuple #[.agg (xCs ⟨#[]⟩ (.slice none 0 0)),.int .i64 1],(by rw [results_cell_tmp rfl]; go_simp; rfl),?_⟩
  exact HNN.out
 by_cases htf:to_ < fr
 case pos=>
  have HNN:=Lib.hid (HN1.out (.inr (.inl htf)))
  clear HN1
  go_wp2
  refine ⟨rfl,.tuple #[.agg (xCs ⟨#[]⟩ (.slice none 0 0)),.int .i64 1],(by rw [results_cell_tmp rfl]; go_simp; rfl),?_⟩
  exact HNN.out
 by_cases hLt:(L:Int) < to_
 case pos=>
  have HNN:=Lib.hid (HN1.out (.inr (.inr (by rw [List.length_map,HL.out]; exact hLt))))
  clear HN1
  go_wp2
  refine ⟨rfl,.tuple #[.agg (xCs ⟨#[]⟩ (.slice none 0 0)),.int .i64 1],(by rw [results_cell_tmp rfl]; go_simp; rfl),?_⟩
  exact HNN.out
 obtain ⟨f,rfl⟩:=Int.eq_ofNat_of_zero_le (show 0 ≤ fr by omega)
 obtain ⟨g,rfl⟩:=Int.eq_ofNat_of_zero_le (show 0 ≤ to_ by omega)
 have hfg:f ≤ g:=by omega
 have hgL:g ≤ L:=by omega
 have h2:Sc2 w2 F ls (.slice A L c):=by
  have h:=H.out.below G2.out.bo.bel
  exact ⟨h.sli,h.par,h.lt⟩
 have HCP:=Lib.hid (copied_c t ls (.slice A L c) w2 h2 (by rw [HL.out]; exact hl) (fun y hy=>(H.out.bd y hy).2.2.1))
 have HTM:=Lib.hid (fun (W:World) (hW:Below w.heap.size w W)=>timesP_c t ls (.slice A L c) W (by have h:=H.out.below hW; exact ⟨h.sli,h.par,h.lt⟩) (by rw [HL.out]; exact hl))
 clear HN1 h2 y0 y1 f0 f1 hfr hto
 go_upto_region 6 with (fail)
 go_wp2_with fail
 refine HCP.out.mono ?_
 rintro e w3 ⟨l3,v3,rfl,hl3,hB3⟩
 have hG3:=G2.out.take hB3
 have hL3:l3.length = L:=by have:=congrArg List.length hl3; simpa [HL.out] using this
 have HM3:=Lib.hid (And.intro hL3 hl3)
 obtain ⟨A3,c3,hv3,hc31,hc32⟩:=(hG3.bo.own.sliF (enc:=fun x:Scene × Value=>x.1.cells x.2) (hn:=fun _=>rfl) (F:=fun _=>True) (fun _ _=>trivial)).form
 rw [hL3] at hv3 hc31
 subst hv3
 have hG4:=hG3.new (xCs t (.slice A3 L c3)) 28
 have hX3:w.heap.size + 1 < w3.heap.size:=hG3.bo.plt (p:=(w.heap.size + 1,xCs ⟨#[]⟩ (.slice none 0 0),28)) (by simp)
 clear hB3 HCP hG3 G2 hl3 hL3 d0 d1
 rw [show xCs t (.slice A3 L c3) = #[.string t,.slice A3 L c3] from rfl]
 go_upto_region 7 with (fail)
 generalize hW:w3.alloc (.cells #[.string t,.slice A3 L c3] 28) = w4
 have G4:=Lib.hid (show BI w l3 (.slice A3 L c3) [(w3.heap.size,xCs t (.slice A3 L c3),28),(w.heap.size + 1,xCs ⟨#[]⟩ (.slice none 0 0),28),(w.heap.size,xCs t (.slice A L c),28)] w4 by rw [← hW]; exact hG4)
 clear hG4 hW
 generalize w3.heap.size = X at *
 have hXw:X ≠ w.heap.size + 1 ∧ X ≠ w.heap.size:=⟨by omega,by omega⟩
 clear hX3
 have HSX:=Lib.hid (show (ls.map (·.1)).length = L by rw [List.length_map]; exact HL.out)
 have HBB:=Lib.hid G4.out.bo.bel
 obtain ⟨gx,_⟩:=G4.out.cell (p:=(X,xCs t (.slice A3 L c3),28)) (by simp)
 have x1:w4.cell? ⟨X,1,none⟩ = some (.slice A3 L c3):=gx 1
 clear gx
 obtain ⟨tw,htw⟩:∃ tw:Bool,tw = decide (f < g ∧ ∀ x ∈ l3[f]?,x.1.time = 5):=⟨_,rfl⟩
 have HTW:=Lib.hid htw
 clear htw
 go_cut [44] (fun b wx=>b = .bool tw ∧ wx = w4)
 case first=>
  by_cases hlt:f < g
  ·have hi:(f:Int) < g:=by omega
   have hf3:f < l3.length:=by rw [HM3.out.1]; omega
   obtain ⟨gb,cb,hv,_,_⟩:=Own.some_ (enc:=fun x:Scene × Value=>x.1.cells x.2) (hn:=fun _=>rfl) G4.out.bo.own (by rw [HM3.out.1]; omega)
   rw [HM3.out.1] at hv
   injection hv with hv1 _ hv3
   subst hv1
   subst hv3
   have hc:=(Own.cellAt (enc:=fun x:Scene × Value=>x.1.cells x.2) (hn:=fun _=>rfl) G4.out.bo.own f hf3 3 (by decide)).1
   have hgt:l3[f]? = some l3[f]:=List.getElem?_eq_getElem hf3
   have HT2:=Lib.hid (show tw = decide (l3[f].1.time = 5) by rw [HTW.out,hgt]; simp [hlt])
   generalize l3[f] = y at *
   have c3':w4.cell? ⟨gb,f * 5 + 3,none⟩ = some (.int .i64 y.1.time):=hc
   clear hc hgt hf3
   by_cases h5:y.1.time = 5
   ·have q5:(y.1.time == 5) = true:=beq_iff_eq.2 h5
    have e:tw = true:=by rw [HT2.out,decide_eq_true h5]
    subst e
    clear h5
    go_wp2
    go_meet
    exact ⟨rfl,rfl⟩
   ·have q5:(y.1.time == 5) = false:=beq_eq_false_iff_ne.2 h5
    have e:tw = false:=by rw [HT2.out,decide_eq_false h5]
    subst e
    clear h5
    go_wp2
    go_meet
    exact ⟨rfl,rfl⟩
  ·have hi:¬ (f:Int) < g:=by omega
   have e:tw = false:=by rw [HTW.out]; exact decide_eq_false fun h=>hlt h.1
   subst e
   go_wp2
   go_meet
   exact ⟨rfl,rfl⟩
 case rest=>
 obtain ⟨rfl,rfl⟩:=hcut
 go_upto_if 44 with (fail)
 go_cut [] (fun wx=>∃ (lx:List (Scene × Value)),Hid (lx.length = L ∧ ((lx.take g).drop f).map (·.1) = cutS (ls.map (·.1)) f g) ∧ Hid (BI w lx (.slice A3 L c3) [(X,xCs t (.slice A3 L c3),28),(w.heap.size + 1,xCs ⟨#[]⟩ (.slice none 0 0),28)] wx))
 case first=>
  cases tw with
  | false=>
   go_wp2
   go_meet
   refine ⟨l3,⟨HM3.out.1,?_⟩,G4.out.less (by simp)⟩
   have hft:∀ (h:f < (ls.map fun x:Scene × Value=>x.1).length),f < g → ((ls.map fun x:Scene × Value=>x.1)[f]'h).time = tmAt (ls.map fun x:Scene × Value=>x.1) f:=fun h hlt=>by
    refine (tmAt_now h (.inl fun h5=>?_)).symm
    have h3:f < l3.length:=by rw [HM3.out.1,← HSX.out]; exact h
    have hno2:¬ (f < g ∧ ∀ x ∈ l3[f]?,x.1.time = 5):=of_decide_eq_false HTW.out.symm
    refine hno2 ⟨hlt,fun x hx=>?_⟩
    rw [List.getElem?_eq_getElem h3] at hx
    obtain rfl:l3[f] = x:=by simpa using hx
    have e:(ls.map fun x:Scene × Value=>x.1)[f]? = some (l3[f]'h3).1:=by rw [← HM3.out.2,List.getElem?_map,List.getElem?_eq_getElem h3]; rfl
    rw [List.getElem?_eq_getElem h] at e
    injection e with e
    rw [e] at h5
    exact h5
   rw [List.map_drop,List.map_take,HM3.out.2]
   exact cutS_now _ f g hft hfg
  | true=>
   have hyes:f < g ∧ ∀ x ∈ l3[f]?,x.1.time = 5:=of_decide_eq_true HTW.out.symm
   have hlt:=hyes.1
   have hf3:f < l3.length:=by rw [HM3.out.1]; omega
   obtain ⟨gb,cb,hv,hgb1,hgb2⟩:=Own.some_ (enc:=fun x:Scene × Value=>x.1.cells x.2) (hn:=fun _=>rfl) G4.out.bo.own (by rw [HM3.out.1]; omega)
   rw [HM3.out.1] at hv
   injection hv with hv1 _ hv3
   subst hv1
   subst hv3
   obtain ⟨gz,_⟩:=G4.out.cell (p:=(w.heap.size,xCs t (.slice A L c),28)) (by simp)
   have z0:wc.cell? ⟨w.heap.size,0,none⟩ = some (.string t):=gz 0
   have z1:wc.cell? ⟨w.heap.size,1,none⟩ = some (.slice A L c):=gz 1
   obtain ⟨ι,ff,hne,hff,hfS⟩:=family (fun W=>W.cell? ⟨X,1,none⟩ = some (.slice (some ⟨gb,0,none⟩) L c3) ∧ W.cell? ⟨w.heap.size,0,none⟩ = some (.string t) ∧ W.cell? ⟨w.heap.size,1,none⟩ = some (.slice A L c)) wc ⟨x1,z0,z1⟩
   have q0:=fun p=>(hff p).1
   have q1:=fun p=>(hff p).2.1
   have q2:=fun p=>(hff p).2.2
   have HFS:=Lib.hid hfS
   have HZ:=Lib.hid (And.intro x1 (And.intro z0 z1))
   have HT1:=Lib.hid (HTM.out wc.drew HBB.out.drew)
   have hfL:(f:Int) < L:=by omega
   clear hff hfS x1 z0 z1 gz hyes HTW HTM
   go_upto_region 8 with (fail)
   refine wp_region_segs3 [4,10] [] [] [([0,2,5],[1,3],4),([6],[7,8,9],10)] (by kernel_rfl) (by kernel_rfl) (fun _ _ _ dd _ h=>by cases dd <;> exact h) (fun W=>∃ p:ι,W = ff p) (HFS.out _ HZ.out) ?_
   refine wpSegs3_step (by simp only [pick,List.getElem?_cons_succ,List.getElem?_cons_zero]; rfl) (by simp only [pick,List.getElem?_cons_succ,List.getElem?_cons_zero]; rfl) rfl (fun K0 hK0 L0 hL0=>?_)
   repeat (first | go_big_quiet_step (fail) | quiet_step (fail))
   refine wpQuiet_nil (hL0 _ ?_)
   repeat (first | go_big_quiet_step (fail) | quiet_step (fail))
   refine wpQuiet_nil ?_
   refine Or.inl ⟨by kernel_rfl,?_⟩
   go_simp
   refine HT1.out.mono ?_
   rintro e w5 ⟨vt,rfl,hownt,hb5⟩
   have G5:=Lib.hid (G4.out.drew.below hb5)
   rw [HSX.out] at hownt
   obtain ⟨gt,ct,hv,hgt1,hgt2⟩:=Own.some_ (enc:=fun x:Int=>[.int .i64 x]) (hn:=fun _=>rfl) hownt (by rw [tmS_len]; omega)
   rw [tmS_len] at hv
   subst hv
   have hct:=(Own.cellAt (enc:=fun x:Int=>[.int .i64 x]) (hn:=fun _=>rfl) hownt f (by rw [tmS_len]; omega) 0 (by decide)).1
   rw [show (tmS (ls.map fun x=>x.1) L)[f]'(by rw [tmS_len]; omega) = tmAt (ls.map fun x=>x.1) f by simp [tmS]] at hct
   obtain ⟨tm,htm⟩:∃ tm,tmAt (ls.map fun x=>x.1) f = tm:=⟨_,rfl⟩
   have HTMV:=Lib.hid htm
   rw [htm] at hct
   have hct2:w5.cell? ⟨gt,f,none⟩ = some (.int .i64 tm):=by rw [show f * 1 + 0 = f by omega] at hct; exact hct
   obtain ⟨gz,_⟩:=G5.out.cell (p:=(w.heap.size,xCs t (.slice A L c),28)) (by simp)
   have x1:w5.cell? ⟨X,1,none⟩ = some (.slice (some ⟨gb,0,none⟩) L c3):=(G5.out.cell (p:=(X,xCs t (.slice (some ⟨gb,0,none⟩) L c3),28)) (by simp)).1 1
   obtain ⟨ι2,ff2,hne2,hff2,hfS2⟩:=family (fun W=>(W.cell? ⟨X,1,none⟩ = some (.slice (some ⟨gb,0,none⟩) L c3) ∧ W.cell? ⟨w.heap.size,0,none⟩ = some (.string t) ∧ W.cell? ⟨w.heap.size,1,none⟩ = some (.slice A L c)) ∧ W.cell? ⟨gt,f,none⟩ = some (.int .i64 tm)) w5 ⟨⟨x1,gz 0,gz 1⟩,hct2⟩
   have p0:=fun p=>(hff2 p).2
   have HFS2:=Lib.hid hff2
   have HW2:=Lib.hid (hfS2 w5 ⟨⟨x1,gz 0,gz 1⟩,hct2⟩)
   refine hK0 (fun W=>∃ p:ι2,W = ff2 p) _ _ (fun W hW=>by obtain ⟨p,rfl⟩:=hW; exact HFS.out _ (HFS2.out p).1) HW2.out ?_
   have hcs:=Own.cellAt (enc:=fun x:Scene × Value=>x.1.cells x.2) (hn:=fun _=>rfl) G5.out.bo.own f hf3 3 (by decide)
   have c3':∃ u,w5.cell? ⟨gb,f * 5 + 3,none⟩ = some u:=⟨_,hcs.1⟩
   obtain ⟨u3,c3'⟩:=c3'
   have f3':=hcs.2
   have HB6:=Lib.hid (G5.out.modify (j:=3) (fun y=>({ y.1 with time:=tm },y.2)) f (.int .i64 tm) (fun _=>rfl) (by decide) hf3 (fun _=>⟨rfl,rfl⟩))
   have HL6:=Lib.hid (show (l3.modify f fun y=>({ y.1 with time:=tm },y.2)).length = L ∧ (((l3.modify f fun y=>({ y.1 with time:=tm },y.2)).take g).drop f).map (fun x:Scene × Value=>x.1) = cutS (ls.map fun x:Scene × Value=>x.1) f g from by
    refine ⟨by rw [List.length_modify]; exact HM3.out.1,?_⟩
    rw [List.map_drop,List.map_take,← cutS_mod (ls.map fun x:Scene × Value=>x.1) f g (fun s=>{ s with time:=tm }) (fun h=>by dsimp only; rw [HTMV.out])]
    congr 2
    rw [← HM3.out.2]
    apply List.ext_getElem?
    intro i
    rw [List.getElem?_map,List.getElem?_modify,List.getElem?_modify,List.getElem?_map]
    cases l3[i]? with
    | none=>rfl
    | some y=>by_cases e:f = i <;> simp [e])
   have hfL2:f < L:=by omega
   have hXgb:X ≠ gb:=fun e=>(G5.out.bo.prv (X,xCs t (.slice (some ⟨gb,0,none⟩) L c3),28) (by simp)).2.2 (by dsimp only; rw [e]; rfl)
   have hwgb:w.heap.size ≠ gb:=fun e=>(G5.out.bo.prv (w.heap.size,xCs t (.slice A L c),28) (by simp)).2.2 (by dsimp only; rw [e]; rfl)
   have hgtb:gt ≠ gb:=by have:gb < wc.heap.size:=hgb2; have:wc.heap.size ≤ gt:=hgt1; omega
   have HKO:=Lib.hid (show ∀ (b i:Nat) (u:Value),b ≠ gb → (w5.setCell ⟨gb,f * 5 + 3,none⟩ u).cell? ⟨b,i,none⟩ = w5.cell? ⟨b,i,none⟩ from fun b i u hne=>World.cell?_of_block (Below.heap_setCell _ _ _ _ hne))
   have HEND:=Lib.hid (show ∀ u,∃ p,w5.setCell ⟨gb,f * 5 + 3,none⟩ u = ff2 p from fun u=>hfS2 _ ⟨⟨(HKO.out _ _ _ hXgb).trans x1,(HKO.out _ _ _ hwgb).trans (gz 0),(HKO.out _ _ _ hwgb).trans (gz 1)⟩,(HKO.out _ _ _ hgtb).trans hct2⟩)
   clear gz hct hct2 htm hcs hff2 hfS2 hownt hb5 HM3 G4 HZ hf3 q0 q1 q2 x1 hXgb hwgb hgtb HKO
   have q0:=fun p=>(HFS2.out p).1.1
   refine wpSegs3_step (by simp only [pick,List.getElem?_cons_succ,List.getElem?_cons_zero]; rfl) (by simp only [pick,List.getElem?_cons_succ,List.getElem?_cons_zero]; rfl) rfl (fun K1 hK1 L1 hL1=>?_)
   repeat (first | go_big_quiet_step (fail) | quiet_step (fail))
   refine wpQuiet_nil (hL1 _ ?_)
   repeat (first | go_big_quiet_step (fail) | quiet_step (fail))
   refine wpQuiet_nil ?_
   refine Or.inl ⟨by kernel_rfl,?_⟩
   go_simp
   refine hK1 (fun W=>∃ p:ι2,W = ff2 p) _ _ (fun _ h=>h) (HEND.out _) (wpSegs3_end ?_)
   clear p0 q0
   go_wp2
   go_meet
   exact ⟨_,HL6,HB6.out.less (by simp)⟩
 case rest=>
 clear G4 HM3 HTW HTM x1
 obtain ⟨lx,HLX,GX⟩:=hcut
 obtain ⟨gx,_⟩:=GX.out.cell (p:=(X,xCs t (.slice A3 L c3),28)) (by simp)
 have x1:wc.cell? ⟨X,1,none⟩ = some (.slice A3 L c3):=gx 1
 have HFO:=Lib.hid (sli_forms GX.out.inn)
 have HMEM:=Lib.hid (show ∀ y ∈ (lx.take g).drop f,y ∈ lx from fun y hy=>List.mem_of_mem_take (List.mem_of_mem_drop hy))
 have hsl:Sli svR wc (fun q=>q < wc.heap.size) lx (.slice A3 L c3):=GX.out.bo.own.sliF (enc:=fun x:Scene × Value=>x.1.cells x.2) (hn:=fun _=>rfl) (fun q e=>(GX.out.bo.own.block q e).2)
 have htk:=hsl.take_ g (by rw [HLX.out.1]; exact hgL)
 have hlen:((lx.take g).drop f).length = g - f:=by rw [List.length_drop,List.length_take,HLX.out.1]; omega
 have HTK:=Lib.hid htk
 have HLEN:=Lib.hid hlen
 have HOF:=Lib.hid GX.out.bo.own.form
 clear hsl htk hlen gx
 have FIN:=Lib.hid (fun (w7:World) (v7:Value) (hb:Below wc.heap.size wc w7) (hown:Own svR w7 wc.heap.size wc.heap.size 46 ((lx.take g).drop f) v7)=>
  show (w7.cell? ⟨X,0,none⟩ = some (.string t) ∧ (∃ u,w7.cell? ⟨X,1,none⟩ = some u) ∧ w7.frozen? ⟨X,1,none⟩ = false) ∧ BI w ((lx.take g).drop f) v7 [(X,xCs t v7,28),(w.heap.size + 1,xCs ⟨#[]⟩ (.slice none 0 0),28)] (w7.setCell ⟨X,1,none⟩ v7) from by
   have h:=GX.out.put hb hown HMEM.out
   obtain ⟨x,f⟩:=h.cell (p:=(X,xCs t (.slice A3 L c3),28)) (by simp)
   exact ⟨⟨x 0,⟨_,x 1⟩,f 1⟩,h.set (i:=1) v7 (by simpa using hXw.1.symm)⟩)
 have FIN2:=Lib.hid (fun (w8:World) (v7:Value) (h:BI w ((lx.take g).drop f) v7 [(X,xCs t v7,28),(w.heap.size + 1,xCs ⟨#[]⟩ (.slice none 0 0),28)] w8)=>
  show ((w8.cell? ⟨X,0,none⟩ = some (.string t) ∧ w8.cell? ⟨X,1,none⟩ = some v7) ∧ (w8.cell? ⟨w.heap.size + 1,0,none⟩ = some (.string ⟨#[]⟩) ∧ w8.cell? ⟨w.heap.size + 1,1,none⟩ = some (.slice none 0 0)) ∧ (w8.frozen? ⟨w.heap.size + 1,0,none⟩ = false ∧ w8.frozen? ⟨w.heap.size + 1,1,none⟩ = false)) ∧ CtP ⟨t,ls.map (·.1)⟩ f g w (.returned (.tuple #[.agg (xCs t v7),.int .i64 0])) ((w8.setCell ⟨w.heap.size + 1,0,none⟩ (.string t)).setCell ⟨w.heap.size + 1,1,none⟩ v7) from by
   obtain ⟨x,_⟩:=h.cell (p:=(X,xCs t v7,28)) (by simp)
   obtain ⟨y,fy⟩:=h.cell (p:=(w.heap.size + 1,xCs ⟨#[]⟩ (.slice none 0 0),28)) (by simp)
   refine ⟨⟨⟨x 0,x 1⟩,⟨y 0,y 1⟩,fy 0,fy 1⟩,t,_,v7,0,rfl,(((h.less (Q:=[(w.heap.size + 1,xCs ⟨#[]⟩ (.slice none 0 0),28)]) (by simp)).set (i:=0) (.string t) (by simp)).set (i:=1) v7 (by simp)).less (by simp),.inr (.inr ⟨HEG.out,by omega,by omega,by rw [HSX.out]; omega,rfl,rfl,?_⟩)⟩
   rw [HLX.out.2]
   rfl)
 rcases HOF.out with ⟨e1,e2⟩ | ⟨gq,cq,e1,_,_,_,_⟩
 ·injection e1 with e1 e3 e4
  subst e1
  subst e4
  have hL0:L = 0:=by omega
  subst hL0
  obtain rfl:g = 0:=by omega
  obtain rfl:f = 0:=by omega
  have HCL:=Lib.hid (cloneScene_c ((lx.take 0).drop 0) (.slice none 0 0) wc (by simpa using HTK.out) (by simp) (fun x hx=>by simp at hx))
  clear HOF HTK
  go_wp2_with fail
  refine HCL.out.mono ?_
  rintro e w7 ⟨v7,rfl,hown7,hb7⟩
  obtain ⟨A7,c7,hv7,_,_⟩:=(hown7.sliF (enc:=fun x:Scene × Value=>x.1.cells x.2) (hn:=fun _=>rfl) (F:=fun _=>True) (fun _ _=>trivial)).form
  subst hv7
  obtain ⟨⟨k0,⟨u7,k1⟩,k2⟩,h8⟩:=FIN.out w7 _ hb7 hown7
  have H8:=Lib.hid h8
  have HEN:=Lib.hid (fun w8=>FIN2.out w8 (.slice A7 ((lx.take 0).drop 0).length c7))
  clear h8 hown7 hb7 FIN HCL x1 FIN2 HLX HMEM HFO
  generalize hz:((lx.take 0).drop 0).length = n7 at *
  go_upto_region 10 with (fail)
  clear k0 k1 k2
  generalize w7.setCell ⟨X,1,none⟩ (.slice A7 n7 c7) = w8 at *
  obtain ⟨⟨⟨x0,x1⟩,⟨y0,y1⟩,f0,f1⟩,hend⟩:=HEN.out w8 H8.out
  have HEND:=Lib.hid hend
  clear hend HEN H8 hz
  go_wp2
  refine ⟨rfl,.tuple #[.agg (xCs t (.slice A7 n7 c7)),.int .i64 0],(by rw [results_cell_tmp rfl]; go_simp; rfl),?_⟩
  exact HEND.out
 ·injection e1 with e1 e3 e4
  subst e1
  subst e4
  obtain ⟨A9,hA9,hS9⟩:∃ A9,(if c3 = f then some (⟨gq,0,none⟩:Addr) else some ⟨gq,f * 5,none⟩) = A9 ∧ Sli svR wc (fun q=>q < wc.heap.size) ((lx.take g).drop f) (.slice A9 (g - f) (c3 - f)):=by
   have hd:=HTK.out.drop_ f (by rw [List.length_take,HLX.out.1]; omega) (g - f) (c3 - f) (by rw [List.length_take,HLX.out.1]; omega) rfl
   by_cases hcf:c3 = f
   ·refine ⟨_,if_pos hcf,?_⟩
    obtain ⟨A',c',e,h1,h2,h3⟩:=hd
    injection e with _ e2 e3
    exact ⟨_,_,by rw [← HLEN.out],by rw [HLEN.out]; omega,by omega,fun h0=>by rw [HLEN.out] at h0; omega⟩
   ·refine ⟨_,if_neg hcf,?_⟩
    have e:0 + f * svR.n = f * 5:=by show 0 + f * 5 = _; omega
    rw [e] at hd
    exact hd
  have HCL:=Lib.hid (cloneScene_c ((lx.take g).drop f) (.slice A9 (g - f) (c3 - f)) wc hS9 (by rw [HLEN.out]; omega) (fun x hx=>HFO.out x (HMEM.out x hx)))
  have i1:(f:Int) ≤ g:=by omega
  have i2:(g:Int) ≤ c3:=by omega
  have i3:((g:Int) - f).toNat = g - f:=by omega
  have i4:g ≤ c3:=by omega
  have i5:f ≤ c3:=by omega
  clear HOF HTK hS9
  go_wp2_with fail
  refine HCL.out.mono ?_
  rintro e w7 ⟨v7,rfl,hown7,hb7⟩
  obtain ⟨A7,c7,hv7,_,_⟩:=(hown7.sliF (enc:=fun x:Scene × Value=>x.1.cells x.2) (hn:=fun _=>rfl) (F:=fun _=>True) (fun _ _=>trivial)).form
  subst hv7
  obtain ⟨⟨k0,⟨u7,k1⟩,k2⟩,h8⟩:=FIN.out w7 _ hb7 hown7
  have H8:=Lib.hid h8
  have HEN:=Lib.hid (fun w8=>FIN2.out w8 (.slice A7 ((lx.take g).drop f).length c7))
  clear h8 hown7 hb7 FIN HCL x1 FIN2 HLX HMEM HFO
  generalize hz:((lx.take g).drop f).length = n7 at *
  go_upto_region 10 with (fail)
  clear k0 k1 k2
  generalize w7.setCell ⟨X,1,none⟩ (.slice A7 n7 c7) = w8 at *
  obtain ⟨⟨⟨x0,x1⟩,⟨y0,y1⟩,f0,f1⟩,hend⟩:=HEN.out w8 H8.out
  have HEND:=Lib.hid hend
  clear hend HEN H8 hz
  go_wp2
  refine ⟨rfl,.tuple #[.agg (xCs t (.slice A7 n7 c7)),.int .i64 0],(by rw [results_cell_tmp rfl]; go_simp; rfl),?_⟩
  exact HEND.out
end Go.Proofs.YtaoobkgepcikiaaGreatDoor
