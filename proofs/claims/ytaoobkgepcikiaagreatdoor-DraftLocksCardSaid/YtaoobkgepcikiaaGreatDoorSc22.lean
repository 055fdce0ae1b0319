/- Texts packed: SpC. -/
import Derived.Test.YtaoobkgepcikiaaGreatDoorSc21
import Derived.Test.YtaoobkgepcikiaaGreatDoorSc08
import Derived.Deep.QuietTactic
import Derived.BigQuiet
import Derived.Deep.DeepCutAuto
import Derived.RegionTactic
namespace Go.Proofs.YtaoobkgepcikiaaGreatDoor
set_option linter.unusedVariables false
open Go.RowKit Go.Sort
set_option maxRecDepth 100000 in
set_option maxHeartbeats 16000000 in
theorem SpoiledScriptM_c {F:Nat → Prop} (sb N M:Nat) (k0:Int) (t:ByteArray) (l:List (Scene × Value)) (v0:Value) (w:World) (hs:Str w sb k0) (hk0:k0 ≤ 3900000000000000000) (h:Sli svR w F l v0) (hp:∀ y ∈ l,Sli paraR w F y.1.paras y.2) (hF:∀ q,F q → q < w.heap.size ∧ q ≠ sb)
  (ht:t.size ≤ 1000) (hl:l.length ≤ M) (hM:M ≤ 1000) (hb:∀ y ∈ l,sceneBm N y.1) (hN:2001 ≤ N) (hN2:N ≤ 100000) :
  Calls Tryz.prog 15 #[.pointer (some ⟨sb,0,none⟩),.agg #[.string t,v0]] w (Took sb k0 20 (isSpM F l.length (N + 10) (M + 1) w) w):=by
 obtain ⟨i0,hi0,hz0,hz1,hz2⟩:=info_parts (show (Tryz.prog.info? 46).map (fun i=>(i.zero,i.size,i.bytes)) = some (some (.agg #[.string ⟨#[]⟩,.int .i64 0,.string ⟨#[]⟩,.int .i64 0,.slice none 0 0]),5,72) by kernel_rfl)
 obtain ⟨A,c,rfl,hc1,hc2⟩:=h.form
 have hsb:=hs.lt
 have hG0:GS svR 46 w sb [] (.slice none 0 0) [] k0 w:=GS.start hs
 have HS:=Lib.hid h
 have HP:=Lib.hid hp
 have HF:=Lib.hid hF
 have HBD:=Lib.hid hb
 have HSF:=Lib.hid (sli_forms hp)
 clear hs h hp hF hb
 go_enter Tryz.func15,Tryz.ntmps15
 go_upto_region 1 with (fail)
 have hG:GS svR 46 w sb [] (.slice none 0 0) (SpP w t (.slice A l.length c)) k0 ((w.alloc (.cells (xCs t (.slice A l.length c)) 28)).alloc (.cells (xCs ⟨#[]⟩ (.slice none 0 0)) 28)):=by
  have h:=(hG0.new (xCs t (.slice A l.length c)) 28).new (xCs ⟨#[]⟩ (.slice none 0 0)) 28
  rw [show (w.alloc (.cells (xCs t (.slice A l.length c)) 28)).heap.size = w.heap.size + 1 by simp] at h
  exact h.less (by simp)
 have hz:((w.alloc (.cells (xCs t (.slice A l.length c)) 28)).alloc (.cells (xCs ⟨#[]⟩ (.slice none 0 0)) 28)).heap.size = w.heap.size + 2:=by simp
 have hkp:∀ q,q < w.heap.size → ((w.alloc (.cells (xCs t (.slice A l.length c)) 28)).alloc (.cells (xCs ⟨#[]⟩ (.slice none 0 0)) 28)).heap[q]? = w.heap[q]?:=fun q hq=>(Below.heap_alloc _ _ _ (by simp; omega)).trans (Below.heap_alloc _ _ _ hq)
 generalize hW:(w.alloc (.cells #[.string t,.slice A l.length c] 28)).alloc (.cells #[.string ⟨#[]⟩,.slice none 0 0] 28) = w1
 have G1:=Lib.hid (show GS svR 46 w sb [] (.slice none 0 0) (SpP w t (.slice A l.length c)) k0 w1 by rw [← hW]; exact hG)
 have hw1:w.heap.size + 2 ≤ w1.heap.size:=by rw [← hW]; exact Nat.le_of_eq hz.symm
 have HK1:=Lib.hid (show ∀ q,q < w.heap.size → w1.heap[q]? = w.heap[q]? by rw [← hW]; exact hkp)
 clear hG0 hG hW hz hkp
 have x1:w1.cell? ⟨w.heap.size,1,none⟩ = some (.slice A l.length c):=(G1.out.cell (p:=(w.heap.size,xCs t (.slice A l.length c),28)) (by simp)).1 1
 have HCL:=Lib.hid (cloneScene_c l (.slice A l.length c) w1 (HS.out.keep fun q hq=>HK1.out q (HF.out q hq).1) (by omega) HSF.out)
 go_wp2_with fail
 refine HCL.out.mono ?_
 rintro e w2 ⟨v,rfl,hown2,hb2⟩
 have hG2:=GS.takeF G1.out hb2 hown2
 have hI2:∀ (i:Nat) x,l[i]? = some x → i ≠ l.length → Sli paraR w2 (SpF F w (w.heap.size + 2) v) x.1.paras x.2:=fun i x hx _=>
  ((HP.out x (List.mem_iff_getElem?.2 ⟨i,hx⟩)).keep fun q hq=>(hb2.block q (by have:=(HF.out q hq).1; omega)).trans (HK1.out q (HF.out q hq).1)).more fun q hq=>⟨.inl hq,fun e=>by have:=(hown2.block q e).1; have:=(HF.out q hq).1; omega⟩
 have f1:w2.frozen? ⟨w.heap.size,1,none⟩ = false:=(hG2.cell (p:=(w.heap.size,xCs t (.slice A l.length c),28)) (by simp)).2 1
 have c1:w2.cell? ⟨w.heap.size,1,none⟩ = some (.slice A l.length c):=(hG2.cell (p:=(w.heap.size,xCs t (.slice A l.length c),28)) (by simp)).1 1
 have hz2:=hb2.size
 have I3:=Lib.hid (show SpI F w sb (w.heap.size + 2) l.length t l v k0 (w2.setCell ⟨w.heap.size,1,none⟩ v) from ⟨hG2.set (i:=1) svFlat v (by simp),fun i x hx hik=>(hI2 i x hx hik).setCell v (p:=⟨w.heap.size,1,none⟩) (fun hq=>by
   rcases hq.1 with h1 | h1
   ·have:=(HF.out _ h1).1; dsimp only at this; omega
   ·dsimp only at h1; omega),by simp [World.setCell]; omega,HF.out⟩)
 obtain ⟨A2,c2,hv,hc21,hc22⟩:=(hown2.sliF (enc:=fun x:Scene × Value=>x.1.cells x.2) (hn:=fun _=>rfl) (F:=fun _=>True) (fun _ _=>trivial)).form
 subst hv
 clear hG2 hI2 hown2 hb2 G1 HK1 HCL x1 hc1 hc2 HS HP
 obtain ⟨L,hL⟩:∃ L,l.length = L:=⟨_,rfl⟩
 have HL:=Lib.hid hL
 rw [hL] at I3 hl hc21 ⊢
 clear hL
 go_upto_region 2 with (fail)
 clear c1 f1
 generalize w2.setCell ⟨w.heap.size,1,none⟩ (.slice A2 L c2) = w3 at *
 obtain ⟨⟨x0,x1⟩,_⟩:=I3.out.cells
 go_cut [19] (fun b wx=>∃ (bb:Bool) (n:Int),b = .bool bb ∧ (bb = false → 0 < L) ∧ n ≤ k0 + 1 ∧ Hid (SpI F w sb (w.heap.size + 2) L t l (.slice A2 L c2) n wx))
 case first=>
  by_cases h0:L = 0
  ·have h0a:((L:Int) == 0) = true:=beq_iff_eq.2 (by omega)
   clear h0
   go_wp2
   go_meet
   exact ⟨true,k0,rfl,(fun h=>by cases h),by omega,I3⟩
  ·have h0a:((L:Int) == 0) = false:=beq_eq_false_iff_ne.2 (by omega)
   have h0b:0 < L:=by omega
   clear h0
   go_wp2_with fail
   refine (flip_c sb k0 10 w3 I3.out.gs.str (by omega) (by decide) (by decide)).mono ?_
   rintro e w4 ⟨v4,n4,rfl,⟨b4,rfl⟩,hn4,hs4,hg4⟩
   have I4:=Lib.hid (I3.out.turn hg4 hs4)
   clear hs4 hg4 x0 x1
   go_wp2
   go_meet
   exact ⟨b4,n4,rfl,fun _=>h0b,hn4,I4⟩
 case rest=>
 clear I3 x0 x1
 obtain ⟨bb,n4,rfl,hbb,hn4,I4⟩:=hcut
 cases bb with
 | true=>
  go_wp2_with fail
  refine (Tryz.strings_Repeat ⟨#[116]⟩ 60 wc (by decide) (by decide)).mono ?_
  rintro e w5 ⟨rfl,hb⟩
  have I5:=Lib.hid (I4.out.below hb)
  have hr1:=rep_sz ⟨#[116]⟩ 60 100 (by decide)
  generalize (⟨(Lib.repeatL (⟨#[116]⟩:ByteArray).data.toList 60).toArray⟩:ByteArray) = r1 at *
  clear hb I4
  go_wp2_with fail
  refine (Tryz.strings_Repeat ⟨#[116]⟩ 61 w5 (by decide) (by decide)).mono ?_
  rintro e w6 ⟨rfl,hb⟩
  have I6:=Lib.hid (I5.out.below hb)
  have hr2:=rep_sz ⟨#[116]⟩ 61 100 (by decide)
  generalize (⟨(Lib.repeatL (⟨#[116]⟩:ByteArray).data.toList 61).toArray⟩:ByteArray) = r2 at *
  clear hb I5
  go_wp2_with fail
  refine (oneL w6 [⟨#[]⟩,⟨#[32,84]⟩,⟨#[84,10]⟩,r1,r2] _ _ _ _ rfl rfl (by simp) (by simp) I6.out.gs.str (by omega)).mono ?_
  rintro e w7 ⟨v7,n7,rfl,⟨x7,hx7,rfl⟩,hn7,hs7,hg7⟩
  have hxz:x7.size ≤ 1000:=by
   simp only [List.mem_cons,List.not_mem_nil,or_false] at hx7
   rcases hx7 with rfl | rfl | rfl | rfl | rfl <;> first | omega | decide
  have I7:=(I6.out.alloc _).turn hg7 hs7
  obtain ⟨⟨x0,x1⟩,_,⟨g0,g1⟩,_⟩:=I7.cells
  have I8:=Lib.hid (I7.title x7)
  clear I7 hs7 hg7 hx7 I6 hr1 hr2
  go_upto_region 4 with (fail)
  clear x0 x1 g0 g1
  generalize w7.setCell ⟨w.heap.size,0,none⟩ (.string x7) = w8 at *
  obtain ⟨⟨x0,x1⟩,⟨y0,y1⟩,_,f0,f1⟩:=I8.out.cells
  have HFN:=Lib.hid (I8.out.fin (m0:=l.length) (N:=N + 10) (M:=M + 1) (k0:=k0) (dk:=20) (fun x hx=>by have:=(List.getElem?_eq_some_iff.1 hx).1; rw [HL.out] at this; omega) hxz (by rw [HL.out]; omega) (fun y hy=>(HBD.out y hy).up (by omega)) (by omega))
  go_wp2
  refine ⟨rfl,.agg (xCs x7 (.slice A2 L c2)),(by rw [results_cell1 rfl]; go_simp; rfl),?_⟩
  exact HFN.out
 | false=>
 have hL0:=hbb rfl
 clear hbb
 obtain ⟨g,cap,hv,hg1,hg2⟩:=Own.some_ (enc:=fun x:Scene × Value=>x.1.cells x.2) (hn:=fun _=>rfl) I4.out.gs.own (by rw [HL.out]; exact hL0)
 rw [HL.out] at hv
 injection hv with hv1 _ hv3
 subst hv1
 subst hv3
 obtain ⟨⟨x0,x1⟩,_⟩:=I4.out.cells
 go_wp2_with fail
 refine (next_c sb n4 L wc I4.out.gs.str (by omega) (by omega) (by omega)).mono ?_
 rintro e w5 ⟨v5,n5,rfl,⟨m5,hm0,hm1,rfl⟩,hn5,hs5,hg5⟩
 obtain ⟨k,rfl⟩:=Int.eq_ofNat_of_zero_le hm0
 have hk:k < L:=by omega
 have I5:=Lib.hid (I4.out.turn hg5 hs5)
 clear hs5 hg5 I4 x0 x1 hm0 hm1
 obtain ⟨⟨x0,x1⟩,_⟩:=I5.out.cells
 have hkl:k < l.length:=by rw [HL.out]; exact hk
 obtain ⟨A6,n6,c6,h6⟩:=HSF.out _ (List.getElem_mem hkl)
 have c4:w5.cell? ⟨g,k * 5 + 4,none⟩ = some l[k].2:=(Own.cellAt (enc:=fun x:Scene × Value=>x.1.cells x.2) (hn:=fun _=>rfl) I5.out.gs.own k hkl 4 (by decide)).1
 have hin:=I5.out.inn k _ (List.getElem?_eq_getElem hkl) (by omega)
 obtain ⟨A6',c6',h6',_,_⟩:=hin.form
 have h66:n6 = (l[k]).1.paras.length:=by rw [h6] at h6'; injection h6'
 have hpl:(l[k]).1.paras.length ≤ 60:=(HBD.out _ (List.getElem_mem hkl)).2.2.1
 have HCP:=Lib.hid (clonePara_c (l[k]).1.paras (l[k]).2 w5 hin (by omega))
 have HH6:=Lib.hid h6
 rw [h6] at c4
 rw [h6] at HCP
 clear h6 h6' h66 hin
 go_wp2_with fail
 refine HCP.out.mono ?_
 rintro e w6 ⟨vk,rfl,hok,hb6⟩
 have I6:=(I5.out.below hb6).at_ (Nat.le_of_eq HL.out) k w5.heap.size (by have:=I5.out.le; omega) hb6.size
 have hpl2:w.heap.size + 2 ≤ w5.heap.size:=I5.out.le
 have f6:w6.frozen? ⟨g,k * 5 + 4,none⟩ = false:=(Own.cellAt (enc:=fun x:Scene × Value=>x.1.cells x.2) (hn:=fun _=>rfl) I6.gs.own k hkl 4 (by decide)).2
 have c6:∃ u,w6.cell? ⟨g,k * 5 + 4,none⟩ = some u:=⟨_,(Own.cellAt (enc:=fun x:Scene × Value=>x.1.cells x.2) (hn:=fun _=>rfl) I6.gs.own k hkl 4 (by decide)).1⟩
 obtain ⟨u6,c6⟩:=c6
 have hg5:g < w5.heap.size:=(I5.out.gs.own.block g rfl).2
 have I7:=Lib.hid (I6.mod (j:=4) (fun x=>(x.1,vk)) vk (fun x=>rfl) (by decide) hkl)
 have OK7:=Lib.hid (show Own paraR (w6.setCell ⟨g,k * 5 + 4,none⟩ vk) w5.heap.size w5.heap.size 78 (l[k]).1.paras vk from Own.keepF (enc:=Para.cells) (hn:=fun _=>rfl) hok (fun q hq=>Below.heap_setCell w6 _ _ q (fun e=>by have:=(hok.block q hq).1; dsimp only at e; omega)) (by simp [World.setCell]))
 obtain ⟨Ak,ck,hvk,_,_⟩:=(hok.sliF (enc:=Para.cells) (hn:=fun _=>rfl) (F:=fun _=>True) (fun _ _=>trivial)).form
 subst hvk
 obtain ⟨l1,hl1⟩:∃ l1,l.modify k (fun x=>(x.1,.slice Ak (l[k]).1.paras.length ck)) = l1:=⟨_,rfl⟩
 have HL1:=Lib.hid (show l1.length = L by rw [← hl1,List.length_modify]; exact HL.out)
 have HK1:=Lib.hid (show l1[k]? = some ((l[k]).1,.slice Ak (l[k]).1.paras.length ck) by rw [← hl1,List.getElem?_modify,List.getElem?_eq_getElem hkl]; simp)
 have HB1:=Lib.hid (show ∀ y ∈ l1,sceneBm N y.1 from fun y hy=>by
  rw [← hl1] at hy
  rcases mem_mod hy with hy | ⟨x,hx,rfl⟩
  ·exact HBD.out y hy
  ·exact HBD.out x hx)
 rw [hl1] at I7
 have HSF1:=Lib.hid (show ∀ x ∈ l1,∃ A n c,x.2 = .slice A n c from fun y hy=>by
  rw [← hl1] at hy
  rcases mem_mod hy with hy | ⟨x,hx,rfl⟩
  ·exact HSF.out y hy
  ·exact ⟨_,_,_,rfl⟩)
 generalize (l[k]'hkl).1 = x at *
 clear I6 hok hb6 I5 HCP c4 x0 x1 hl1 HBD HSF hkl HH6
 go_upto_region 8 with (fail)
 clear c6 f6
 generalize w6.setCell ⟨g,k * 5 + 4,none⟩ (.slice Ak x.paras.length ck) = w7 at *
 go_wp2_with fail
 refine (next_c sb n5 8 w7 I7.out.gs.str (by omega) (by omega) (by omega)).mono ?_
 rintro e w8 ⟨v8,n8,rfl,⟨m8,hm0,hm1,rfl⟩,hn8,hs8,hg8⟩
 have I8:=Lib.hid (I7.out.turn hg8 hs8)
 have hm5:sb < w5.heap.size:=by omega
 have OK8:=Lib.hid (show Own paraR w8 w5.heap.size w5.heap.size 78 x.paras (.slice Ak x.paras.length ck) from Own.keepF (enc:=Para.cells) (hn:=fun _=>rfl) OK7.out (fun q hq=>hg8.block q (OK7.out.block q hq).2 (fun e=>by injection e with e; have:=(OK7.out.block q hq).1; omega)) hg8.size)
 clear hs8 hg8 I7 OK7
 have HOKF:=Lib.hid (fun (wz:World) (u:Value) (lp:List Para) (ho:Own paraR wz w5.heap.size w5.heap.size 78 lp u)=>show Sli paraR wz (fun q=>F q ∨ (w.heap.size + 2 ≤ q ∧ q < wz.heap.size)) lp u from ho.sliF (enc:=Para.cells) (hn:=fun _=>rfl) fun q hq=>.inr ⟨by have:=(ho.block q hq).1; omega,(ho.block q hq).2⟩)
 have HMOD:=Lib.hid (fun (j:Nat) (hj:j < 5) (f:Scene × Value → Scene × Value) (u:Value) (n:Int) (wz:World) (I:SpI F w sb w5.heap.size k t l1 (.slice (some ⟨g,0,none⟩) L c2) n wz) (O:Own paraR wz w5.heap.size w5.heap.size 78 x.paras (.slice Ak x.paras.length ck)) (hn:n ≤ k0 + 20) (hf:∀ x,(f x).1.cells (f x).2 = (x.1.cells x.2).set j u) (hf1:∀ x,(f x).1.paras = x.1.paras ∧ (f x).2 = x.2) (hfb:∀ x,sceneBm N x.1 → sceneBm (N + 10) (f x).1)=>
  show SpI F w sb w5.heap.size k t (l1.modify k f) (.slice (some ⟨g,0,none⟩) L c2) n (wz.setCell ⟨g,k * 5 + j,none⟩ u) ∧ Took sb k0 20 (isSpM F l.length (N + 10) (M + 1) w) w (.returned (.agg (xCs t (.slice (some ⟨g,0,none⟩) L c2)))) (((wz.setCell ⟨g,k * 5 + j,none⟩ u).setCell ⟨w.heap.size + 1,0,none⟩ (.string t)).setCell ⟨w.heap.size + 1,1,none⟩ (.slice (some ⟨g,0,none⟩) L c2)) from by
   have I2:=I.mod (j:=j) f u hf hj (by rw [HL1.out]; exact hk)
   have O2:Own paraR (wz.setCell ⟨g,k * 5 + j,none⟩ u) w5.heap.size w5.heap.size 78 x.paras (.slice Ak x.paras.length ck):=Own.keepF (enc:=Para.cells) (hn:=fun _=>rfl) O (fun q hq=>Below.heap_setCell wz _ _ q (fun e=>by have:=(O.block q hq).1; dsimp only at e; omega)) (by simp [World.setCell])
   refine ⟨I2,I2.fin (fun y hy=>?_) ht (by rw [List.length_modify,HL1.out,HL.out]; omega) (fun y hy=>?_) hn⟩
   ·rw [List.getElem?_modify,HK1.out] at hy
    simp at hy
    subst hy
    rw [(hf1 _).1,(hf1 _).2]
    exact HOKF.out _ _ _ O2
   ·rcases mem_mod hy with hy | ⟨z,hz,rfl⟩
    ·exact (HB1.out y hy).up (by omega)
    ·exact hfb z (HB1.out z hz))
 have hmm:m8 = 0 ∨ m8 = 1 ∨ m8 = 2 ∨ m8 = 3 ∨ m8 = 4 ∨ (5 ≤ m8 ∧ m8 ≤ 7):=by omega
 clear hm0 hm1
 rcases hmm with rfl | rfl | rfl | rfl | rfl | hm
 ·go_wp2_with fail
  refine (oneL w8 [⟨#[49]⟩,⟨#[50]⟩,⟨#[49,66]⟩,⟨#[49,65]⟩,⟨#[48]⟩,⟨#[48,66]⟩,⟨#[48,49,50]⟩,⟨#[49,50,51,52]⟩,⟨#[57,57,57,90,90,90,90,90]⟩,⟨#[49,90,90,90,90,90,90]⟩,⟨#[98]⟩,⟨#[]⟩] _ _ _ _ rfl rfl (by decide) (by decide) I8.out.gs.str (by omega)).mono ?_
  rintro e w9 ⟨v9,n9,rfl,⟨x9,hx9,rfl⟩,hn9,hs9,hg9⟩
  have hxz:x9.size ≤ 10:=oneOf (by decide +kernel) hx9
  have I9:=(I8.out.alloc _).turn hg9 hs9
  have O9:Own paraR w9 w5.heap.size w5.heap.size 78 x.paras (.slice Ak x.paras.length ck):=Own.keepF (enc:=Para.cells) (hn:=fun _=>rfl) (OK8.out.alloc _) (fun q hq=>hg9.block q ((OK8.out.alloc _).block q hq).2 (fun e=>by injection e with e; have:=(OK8.out.block q hq).1; omega)) hg9.size
  have hkl1:k < l1.length:=by rw [HL1.out]; exact hk
  obtain ⟨u9,c9⟩:∃ u,w9.cell? ⟨g,k * 5,none⟩ = some u:=⟨_,(Own.cellAt (enc:=fun x:Scene × Value=>x.1.cells x.2) (hn:=fun _=>rfl) I9.gs.own k hkl1 0 (by decide)).1⟩
  have f9:w9.frozen? ⟨g,k * 5,none⟩ = false:=(Own.cellAt (enc:=fun x:Scene × Value=>x.1.cells x.2) (hn:=fun _=>rfl) I9.gs.own k hkl1 0 (by decide)).2
  obtain ⟨i10,hfin⟩:=HMOD.out 0 (by decide) (fun y=>({ y.1 with no:=x9 },y.2)) (.string x9) n9 w9 I9 O9 (by omega) (fun _=>rfl) (fun _=>⟨rfl,rfl⟩) (fun y hy=>⟨by show x9.size ≤ 1000; omega,hy.2.1,hy.2.2.1,fun p hp=>Nat.le_trans (hy.2.2.2 p hp) (by omega)⟩)
  simp only [Nat.add_zero] at i10 hfin
  have I10:=Lib.hid i10
  have HFN:=Lib.hid hfin
  clear I9 O9 hs9 hg9 hx9 HMOD i10 hfin I8 OK8
  go_upto_region 24 with (fail)
  clear c9 f9
  generalize w9.setCell ⟨g,k * 5,none⟩ (.string x9) = wA at *
  obtain ⟨⟨x0,x1⟩,⟨y0,y1⟩,_,f0,f1⟩:=I10.out.cells
  go_wp2
  refine ⟨rfl,.agg (xCs t (.slice (some ⟨g,0,none⟩) L c2)),(by rw [results_cell1 rfl]; go_simp; rfl),?_⟩
  exact HFN.out
 ·go_wp2_with fail
  refine (range_c sb n8 0 4 w8 I8.out.gs.str (by omega) (by omega) (by omega) (by omega)).mono ?_
  rintro e w9 ⟨v9,n9,rfl,⟨y9,_,rfl⟩,hn9,hs9,hg9⟩
  have I9:=I8.out.turn hg9 hs9
  have O9:Own paraR w9 w5.heap.size w5.heap.size 78 x.paras (.slice Ak x.paras.length ck):=Own.keepF (enc:=Para.cells) (hn:=fun _=>rfl) OK8.out (fun q hq=>hg9.block q (OK8.out.block q hq).2 (fun e=>by injection e with e; have:=(OK8.out.block q hq).1; omega)) hg9.size
  have hkl1:k < l1.length:=by rw [HL1.out]; exact hk
  obtain ⟨u9,c9⟩:∃ u,w9.cell? ⟨g,k * 5 + 1,none⟩ = some u:=⟨_,(Own.cellAt (enc:=fun x:Scene × Value=>x.1.cells x.2) (hn:=fun _=>rfl) I9.gs.own k hkl1 1 (by decide)).1⟩
  have f9:w9.frozen? ⟨g,k * 5 + 1,none⟩ = false:=(Own.cellAt (enc:=fun x:Scene × Value=>x.1.cells x.2) (hn:=fun _=>rfl) I9.gs.own k hkl1 1 (by decide)).2
  obtain ⟨i10,hfin⟩:=HMOD.out 1 (by decide) (fun y=>({ y.1 with place:=y9 },y.2)) (.int .i64 y9) n9 w9 I9 O9 (by omega) (fun _=>rfl) (fun _=>⟨rfl,rfl⟩) (fun y hy=>⟨hy.1,hy.2.1,hy.2.2.1,fun p hp=>Nat.le_trans (hy.2.2.2 p hp) (by omega)⟩)
  have I10:=Lib.hid i10
  have HFN:=Lib.hid hfin
  clear I9 O9 hs9 hg9 HMOD i10 hfin I8 OK8
  go_upto_region 24 with (fail)
  clear c9 f9
  generalize w9.setCell ⟨g,k * 5 + 1,none⟩ (.int .i64 y9) = wA at *
  obtain ⟨⟨x0,x1⟩,⟨y0,y1⟩,_,f0,f1⟩:=I10.out.cells
  go_wp2
  refine ⟨rfl,.agg (xCs t (.slice (some ⟨g,0,none⟩) L c2)),(by rw [results_cell1 rfl]; go_simp; rfl),?_⟩
  exact HFN.out
 ·go_wp2_with fail
  refine (range_c sb n8 0 6 w8 I8.out.gs.str (by omega) (by omega) (by omega) (by omega)).mono ?_
  rintro e w9 ⟨v9,n9,rfl,⟨y9,_,rfl⟩,hn9,hs9,hg9⟩
  have I9:=I8.out.turn hg9 hs9
  have O9:Own paraR w9 w5.heap.size w5.heap.size 78 x.paras (.slice Ak x.paras.length ck):=Own.keepF (enc:=Para.cells) (hn:=fun _=>rfl) OK8.out (fun q hq=>hg9.block q (OK8.out.block q hq).2 (fun e=>by injection e with e; have:=(OK8.out.block q hq).1; omega)) hg9.size
  have hkl1:k < l1.length:=by rw [HL1.out]; exact hk
  obtain ⟨u9,c9⟩:∃ u,w9.cell? ⟨g,k * 5 + 3,none⟩ = some u:=⟨_,(Own.cellAt (enc:=fun x:Scene × Value=>x.1.cells x.2) (hn:=fun _=>rfl) I9.gs.own k hkl1 3 (by decide)).1⟩
  have f9:w9.frozen? ⟨g,k * 5 + 3,none⟩ = false:=(Own.cellAt (enc:=fun x:Scene × Value=>x.1.cells x.2) (hn:=fun _=>rfl) I9.gs.own k hkl1 3 (by decide)).2
  obtain ⟨i10,hfin⟩:=HMOD.out 3 (by decide) (fun y=>({ y.1 with time:=y9 },y.2)) (.int .i64 y9) n9 w9 I9 O9 (by omega) (fun _=>rfl) (fun _=>⟨rfl,rfl⟩) (fun y hy=>⟨hy.1,hy.2.1,hy.2.2.1,fun p hp=>Nat.le_trans (hy.2.2.2 p hp) (by omega)⟩)
  have I10:=Lib.hid i10
  have HFN:=Lib.hid hfin
  clear I9 O9 hs9 hg9 HMOD i10 hfin I8 OK8
  go_upto_region 24 with (fail)
  clear c9 f9
  generalize w9.setCell ⟨g,k * 5 + 3,none⟩ (.int .i64 y9) = wA at *
  obtain ⟨⟨x0,x1⟩,⟨y0,y1⟩,_,f0,f1⟩:=I10.out.cells
  go_wp2
  refine ⟨rfl,.agg (xCs t (.slice (some ⟨g,0,none⟩) L c2)),(by rw [results_cell1 rfl]; go_simp; rfl),?_⟩
  exact HFN.out
 ·go_wp2_with fail
  refine (Tryz.strings_Repeat ⟨#[83]⟩ 60 w8 (by decide) (by decide)).mono ?_
  rintro e wa ⟨rfl,hb⟩
  have Ia:=Lib.hid (I8.out.below hb)
  have Oa:=Lib.hid (OK8.out.below hb)
  have hr1:=rep_sz ⟨#[83]⟩ 60 100 (by decide)
  generalize (⟨(Lib.repeatL (⟨#[83]⟩:ByteArray).data.toList 60).toArray⟩:ByteArray) = r1 at *
  clear hb
  go_wp2_with fail
  refine (Tryz.strings_Repeat ⟨#[83]⟩ 61 wa (by decide) (by decide)).mono ?_
  rintro e wb ⟨rfl,hb⟩
  have Ib:=Lib.hid (Ia.out.below hb)
  have Ob:=Lib.hid (Oa.out.below hb)
  have hr2:=rep_sz ⟨#[83]⟩ 61 100 (by decide)
  generalize (⟨(Lib.repeatL (⟨#[83]⟩:ByteArray).data.toList 61).toArray⟩:ByteArray) = r2 at *
  clear hb Ia Oa I8 OK8
  go_wp2_with fail
  refine (oneL wb [⟨#[]⟩,⟨#[104,97,108,108]⟩,⟨#[65,32,45,32,66]⟩,⟨#[65,32,45]⟩,⟨#[49,65]⟩,⟨#[32,65]⟩,⟨#[65,32,32,66]⟩,r1,r2] _ _ _ _ rfl rfl (by simp) (by simp) Ib.out.gs.str (by omega)).mono ?_
  rintro e w9 ⟨v9,n9,rfl,⟨x9,hx9,rfl⟩,hn9,hs9,hg9⟩
  have hxz:x9.size ≤ 1000:=by
   simp only [List.mem_cons,List.not_mem_nil,or_false] at hx9
   rcases hx9 with rfl | rfl | rfl | rfl | rfl | rfl | rfl | rfl | rfl <;> first | omega | decide
  have I9:=(Ib.out.alloc _).turn hg9 hs9
  have O9:Own paraR w9 w5.heap.size w5.heap.size 78 x.paras (.slice Ak x.paras.length ck):=Own.keepF (enc:=Para.cells) (hn:=fun _=>rfl) (Ob.out.alloc _) (fun q hq=>hg9.block q ((Ob.out.alloc _).block q hq).2 (fun e=>by injection e with e; have:=(Ob.out.block q hq).1; omega)) hg9.size
  have hkl1:k < l1.length:=by rw [HL1.out]; exact hk
  obtain ⟨u9,c9⟩:∃ u,w9.cell? ⟨g,k * 5 + 2,none⟩ = some u:=⟨_,(Own.cellAt (enc:=fun x:Scene × Value=>x.1.cells x.2) (hn:=fun _=>rfl) I9.gs.own k hkl1 2 (by decide)).1⟩
  have f9:w9.frozen? ⟨g,k * 5 + 2,none⟩ = false:=(Own.cellAt (enc:=fun x:Scene × Value=>x.1.cells x.2) (hn:=fun _=>rfl) I9.gs.own k hkl1 2 (by decide)).2
  obtain ⟨i10,hfin⟩:=HMOD.out 2 (by decide) (fun y=>({ y.1 with set:=x9 },y.2)) (.string x9) n9 w9 I9 O9 (by omega) (fun _=>rfl) (fun _=>⟨rfl,rfl⟩) (fun y hy=>⟨hy.1,hxz,hy.2.2.1,fun p hp=>Nat.le_trans (hy.2.2.2 p hp) (by omega)⟩)
  have I10:=Lib.hid i10
  have HFN:=Lib.hid hfin
  clear I9 O9 hs9 hg9 HMOD i10 hfin Ib Ob hx9 hr1 hr2
  go_upto_region 24 with (fail)
  clear c9 f9
  generalize w9.setCell ⟨g,k * 5 + 2,none⟩ (.string x9) = wA at *
  obtain ⟨⟨x0,x1⟩,⟨y0,y1⟩,_,f0,f1⟩:=I10.out.cells
  go_wp2
  refine ⟨rfl,.agg (xCs t (.slice (some ⟨g,0,none⟩) L c2)),(by rw [results_cell1 rfl]; go_simp; rfl),?_⟩
  exact HFN.out
 ·go_upto_region 23 with (fail)
  have h0l:0 < l1.length:=by rw [HL1.out]; omega
  obtain ⟨A0,n0,c0,h0⟩:=HSF1.out _ (List.getElem_mem h0l)
  have hc:=fun j (hj:j < 5)=>(Own.cellAt (enc:=fun x:Scene × Value=>x.1.cells x.2) (hn:=fun _=>rfl) I8.out.gs.own 0 h0l j hj).1
  have hm0:=List.getElem_mem h0l
  have HB0:=Lib.hid (HB1.out _ hm0)
  have HM0:=Lib.hid hm0
  generalize hy0:l1[0]'h0l = y0 at *
  obtain ⟨s0,u0⟩:=y0
  dsimp only at h0
  subst h0
  have e0:w8.cell? ⟨g,0,none⟩ = some (.string s0.no):=hc 0 (by decide)
  have e1:w8.cell? ⟨g,1,none⟩ = some (.int .i64 s0.place):=by have:=hc 1 (by decide); simpa [Scene.cells] using this
  have e2:w8.cell? ⟨g,2,none⟩ = some (.string s0.set):=by have:=hc 2 (by decide); simpa [Scene.cells] using this
  have e3:w8.cell? ⟨g,3,none⟩ = some (.int .i64 s0.time):=by have:=hc 3 (by decide); simpa [Scene.cells] using this
  have e4:w8.cell? ⟨g,4,none⟩ = some (.slice A0 n0 c0):=by have:=hc 4 (by decide); simpa [Scene.cells] using this
  obtain ⟨⟨x0,x1⟩,_,⟨fx0,fx1⟩,_⟩:=I8.out.cells
  have hin8:∀ y ∈ l1,Sli paraR w8 (fun q=>(F q ∨ (w.heap.size + 2 ≤ q ∧ q < w8.heap.size)) ∧ q ≠ g) y.1.paras y.2:=fun y hy=>by
   obtain ⟨i,hi⟩:=List.mem_iff_getElem?.1 hy
   by_cases e:i = k
   ·subst e
    rw [HK1.out] at hi
    injection hi with hi
    subst hi
    exact OK8.out.sliF (enc:=Para.cells) (hn:=fun _=>rfl) fun q hq=>⟨.inr ⟨by have:=(OK8.out.block q hq).1; omega,(OK8.out.block q hq).2⟩,fun e=>by have:=(OK8.out.block q hq).1; omega⟩
   ·exact (I8.out.inn i y hi e).more fun q hq=>⟨hq.1.imp id fun hh=>⟨hh.1,Nat.lt_of_lt_of_le hh.2 I8.out.le⟩,fun e=>hq.2 (by rw [e]; rfl)⟩
  have HIN8:=Lib.hid hin8
  have hXg:w.heap.size ≠ g:=fun e=>(I8.out.gs.prv (w.heap.size,xCs t (.slice (some ⟨g,0,none⟩) L c2),28) (by simp)).2.2 (by dsimp only; rw [e]; rfl)
  have hX8:w.heap.size < w8.heap.size:=by have:=I8.out.le; omega
  have hg8':g < w8.heap.size:=(I8.out.gs.own.block g rfl).2
  obtain ⟨ι,ff,hne,hff,hfS⟩:=family (fun W=>W.cell? ⟨w.heap.size,1,none⟩ = some (.slice (some ⟨g,0,none⟩) L c2) ∧ W.cell? ⟨g,0,none⟩ = some (.string s0.no) ∧ W.cell? ⟨g,1,none⟩ = some (.int .i64 s0.place) ∧ W.cell? ⟨g,2,none⟩ = some (.string s0.set) ∧ W.cell? ⟨g,3,none⟩ = some (.int .i64 s0.time) ∧ W.cell? ⟨g,4,none⟩ = some (.slice A0 n0 c0)) w8 ⟨x1,e0,e1,e2,e3,e4⟩
  have hneW:Nonempty World:=⟨w⟩
  have q0:=fun p=>(hff p).1
  have q1:=fun p=>(hff p).2.1
  have q2:=fun p=>(hff p).2.2.1
  have q3:=fun p=>(hff p).2.2.2.1
  have q4:=fun p=>(hff p).2.2.2.2.1
  have q5:=fun p=>(hff p).2.2.2.2.2
  have HFS:=Lib.hid hfS
  have HZ:=Lib.hid (show w8.cell? ⟨w.heap.size,1,none⟩ = some (.slice (some ⟨g,0,none⟩) L c2) ∧ w8.cell? ⟨g,0,none⟩ = some (.string s0.no) ∧ w8.cell? ⟨g,1,none⟩ = some (.int .i64 s0.place) ∧ w8.cell? ⟨g,2,none⟩ = some (.string s0.set) ∧ w8.cell? ⟨g,3,none⟩ = some (.int .i64 s0.time) ∧ w8.cell? ⟨g,4,none⟩ = some (.slice A0 n0 c0) from ⟨x1,e0,e1,e2,e3,e4⟩)
  have hL5:(0:Int) < L:=by omega
  have HH:=Lib.hid (And.intro fx0 fx1)
  clear hff hfS x0 x1 e0 e1 e2 e3 e4 hc hin8 HMOD hm0 hy0 fx0 fx1
  refine wp_region_segs2 [6,7] [] [] [([0,2],[1,3,4,5],6),([],[],7),([8],[],9)] (by kernel_rfl) (by kernel_rfl) (fun _ _ _ dd _ h=>by cases dd <;> exact h) (fun W=>∃ p:ι,W = ff p) (HFS.out _ HZ.out) ?_
  refine wpSegs2_step (by simp only [pick,List.getElem?_cons_succ,List.getElem?_cons_zero]; rfl) (by simp only [pick,List.getElem?_cons_succ,List.getElem?_cons_zero]; rfl) rfl (fun K0 hK0 L0 hL0=>?_)
  repeat (first | go_big_quiet_step (fail) | quiet_step (fail))
  refine wpQuiet_nil (hL0 _ ?_)
  repeat (first | go_big_quiet_step (fail) | quiet_step (fail))
  refine wpQuiet_nil ?_
  go_simp
  have IA:=(I8.out.alloc (.cells #[.string s0.no,.int .i64 s0.place,.string s0.set,.int .i64 s0.time,.slice A0 n0 c0] 46)).drew
  have hnew:(w8.alloc (.cells #[.string s0.no,.int .i64 s0.place,.string s0.set,.int .i64 s0.time,.slice A0 n0 c0] 46)).drew.heap[w8.heap.size]? = some (.cells #[.string s0.no,.int .i64 s0.place,.string s0.set,.int .i64 s0.time,.slice A0 n0 c0] 46 (0,0)):=heap_alloc_new w8 (.cells #[.string s0.no,.int .i64 s0.place,.string s0.set,.int .i64 s0.time,.slice A0 n0 c0] 46)
  have hzA:(w8.alloc (.cells #[.string s0.no,.int .i64 s0.place,.string s0.set,.int .i64 s0.time,.slice A0 n0 c0] 46)).drew.heap.size = w8.heap.size + 1:=(show (w8.alloc (.cells #[.string s0.no,.int .i64 s0.place,.string s0.set,.int .i64 s0.time,.slice A0 n0 c0] 46)).heap.size = w8.heap.size + 1 by simp)
  have HZA:=Lib.hid (show ∀ (b i:Nat),b < w8.heap.size → (w8.alloc (.cells #[.string s0.no,.int .i64 s0.place,.string s0.set,.int .i64 s0.time,.slice A0 n0 c0] 46)).drew.cell? ⟨b,i,none⟩ = w8.cell? ⟨b,i,none⟩ from fun b i hb=>World.cell?_alloc_lt w8 _ ⟨b,i,none⟩ hb)
  have HHA:=Lib.hid (show ∀ b,b < w8.heap.size → (w8.alloc (.cells #[.string s0.no,.int .i64 s0.place,.string s0.set,.int .i64 s0.time,.slice A0 n0 c0] 46)).drew.heap[b]? = w8.heap[b]? from fun b hb=>Below.heap_alloc w8 _ b hb)
  generalize (w8.alloc (.cells #[.string s0.no,.int .i64 s0.place,.string s0.set,.int .i64 s0.time,.slice A0 n0 c0] 46)).drew = wA at *
  have HIA:=Lib.hid IA
  have HNEW:=Lib.hid hnew
  have hbz:w.heap.size ≤ wA.heap.size:=by omega
  clear IA hnew
  refine hK0 (fun W=>∃ p:ι,W = ff p) _ _ (fun _ h=>h) (HFS.out _ ⟨(HZA.out _ _ hX8).trans HZ.out.1,(HZA.out _ _ hg8').trans HZ.out.2.1,(HZA.out _ _ hg8').trans HZ.out.2.2.1,(HZA.out _ _ hg8').trans HZ.out.2.2.2.1,(HZA.out _ _ hg8').trans HZ.out.2.2.2.2.1,(HZA.out _ _ hg8').trans HZ.out.2.2.2.2.2⟩) ?_
  refine wpSegs2_step (by simp only [pick,List.getElem?_cons_succ,List.getElem?_cons_zero]; rfl) (by simp only [pick,List.getElem?_cons_succ,List.getElem?_cons_zero]; rfl) rfl (fun K1 hK1 L1 hL1=>?_)
  repeat (first | go_big_quiet_step (fail) | quiet_step (fail))
  refine wpQuiet_nil (hL1 _ ?_)
  repeat (first | go_big_quiet_step (fail) | quiet_step (fail))
  refine wpQuiet_nil ?_
  refine oper_pushK (R:=svR) rfl _ _ _ rfl w.heap.size w.heap.size 46 i0 _ 72 Tryz.underlying26 hi0 hz0 hz1 (by assumption) rfl (by decide) wA g c2 L l1 HL1.out rfl HIA.out.gs.own ((s0,.slice A0 n0 c0):Scene × Value) _ rfl (oneC rfl) w8.heap.size _ _ HNEW.out rfl (by unfold maxLen; omega) (by omega) hbz ?_
  intro g2 cap2 wB hownB hgB hatB hltB hkcB
  have hXB:wB.heap[w.heap.size]? = wA.heap[w.heap.size]?:=hgB.block _ (by omega) (fun e=>hXg (by injection e with e))
  have fB:wB.frozen? ⟨w.heap.size,1,none⟩ = false:=(World.frozen?_of_block (hXB.trans (HHA.out _ hX8))).trans HH.out.2
  have xB:wB.cell? ⟨w.heap.size,1,none⟩ = some (.slice (some ⟨g,0,none⟩) L c2):=(World.cell?_of_block hXB).trans ((HZA.out _ _ hX8).trans HZ.out.1)
  have hkj:=fun j (hj:j < 5)=>(hkcB j (by show j < L * 5; omega)).trans (HZA.out g j hg8')
  refine hK1 (fun W=>∃ p:ι,W = ff p) _ _ (fun _ h=>h) (HFS.out _ ⟨xB,(hkj 0 (by decide)).trans HZ.out.2.1,(hkj 1 (by decide)).trans HZ.out.2.2.1,(hkj 2 (by decide)).trans HZ.out.2.2.2.1,(hkj 3 (by decide)).trans HZ.out.2.2.2.2.1,(hkj 4 (by decide)).trans HZ.out.2.2.2.2.2⟩) ?_
  have hGB:=GS.more HIA.out.gs (by rw [HL1.out] at *; exact hownB) hgB rfl hatB
  have hGC:=hGB.set (i:=1) svFlat (.slice (some ⟨g2,0,none⟩) (L + 1) cap2) (by simp)
  have hinC:∀ y ∈ l1 ++ [((s0,.slice A0 n0 c0):Scene × Value)],Sli paraR (wB.setCell ⟨w.heap.size,1,none⟩ (.slice (some ⟨g2,0,none⟩) (L + 1) cap2)) (fun q=>F q ∨ (w.heap.size + 2 ≤ q ∧ q < (wB.setCell ⟨w.heap.size,1,none⟩ (.slice (some ⟨g2,0,none⟩) (L + 1) cap2)).heap.size)) y.1.paras y.2:=fun y hy=>by
   have hy1:y ∈ l1:=by
    rcases List.mem_append.1 hy with h | h
    ·exact h
    ·rw [List.mem_singleton] at h; subst h; exact HM0.out
   have hzB:=hgB.size
   refine ((HIN8.out y hy1).keep fun q hq=>?_).more fun q hq=>hq.1.imp id fun hh=>⟨hh.1,by simp [World.setCell]; omega⟩
   have hq8:q < w8.heap.size ∧ q ≠ w.heap.size:=by
    rcases hq.1 with h | h
    ·have:=(HF.out q h).1; omega
    ·omega
   exact (Below.heap_setCell _ _ _ _ hq8.2).trans ((hgB.block q (by omega) (fun e=>hq.2 (by injection e with e))).trans (HHA.out q hq8.1))
  have HGC:=Lib.hid (show GS svR 46 w sb (l1 ++ [((s0,.slice A0 n0 c0):Scene × Value)]) (.slice (some ⟨g2,0,none⟩) (L + 1) cap2) (SpP w t (.slice (some ⟨g2,0,none⟩) (L + 1) cap2)) n8 _ from hGC)
  have HIC:=Lib.hid hinC
  clear hGB hGC hinC hownB hgB hatB hkcB hXB hkj HIA HNEW HHA HZA HZ HIN8 I8 OK8
  refine wpSegs2_last (by simp only [pick,List.getElem?_cons_succ,List.getElem?_cons_zero]; rfl) (by simp only [pick,List.getElem?_cons_succ,List.getElem?_cons_zero]; rfl) rfl (by rfl) (fun K2 hK2 L2 hL2=>?_)
  repeat (first | go_big_quiet_step (fail) | quiet_step (fail))
  refine wpQuiet_nil (hL2 _ ?_)
  repeat (first | go_big_quiet_step (fail) | quiet_step (fail))
  refine wpQuiet_nil ?_
  go_simp
  refine hK2 _ _ (wpSegs2_end ?_)
  clear q0 q1 q2 q3 q4 q5
  go_upto_region 24 with (fail)
  clear xB fB
  generalize wB.setCell ⟨w.heap.size,1,none⟩ (.slice (some ⟨g2,0,none⟩) (L + 1) cap2) = wC at *
  obtain ⟨xx,ff⟩:=HGC.out.cell (p:=(w.heap.size,xCs t (.slice (some ⟨g2,0,none⟩) (L + 1) cap2),28)) (by simp)
  obtain ⟨yy,gg⟩:=HGC.out.cell (p:=(w.heap.size + 1,xCs ⟨#[]⟩ (.slice none 0 0),28)) (by simp)
  have x0:wC.cell? ⟨w.heap.size,0,none⟩ = some (.string t):=xx 0
  have x1:wC.cell? ⟨w.heap.size,1,none⟩ = some (.slice (some ⟨g2,0,none⟩) (L + 1) cap2):=xx 1
  have y0:wC.cell? ⟨w.heap.size + 1,0,none⟩ = some (.string ⟨#[]⟩):=yy 0
  have y1:wC.cell? ⟨w.heap.size + 1,1,none⟩ = some (.slice none 0 0):=yy 1
  have f0:wC.frozen? ⟨w.heap.size + 1,0,none⟩ = false:=gg 0
  have f1:wC.frozen? ⟨w.heap.size + 1,1,none⟩ = false:=gg 1
  have HFN:=Lib.hid (spFin2 (m0:=l.length) (N:=N + 10) (M:=M + 1) (k0:=k0) (dk:=20) HGC.out HF.out HIC.out ht (by rw [List.length_append,HL1.out,HL.out,List.length_singleton]; omega) (fun y hy=>by
   rcases List.mem_append.1 hy with h | h
   ·exact (HB1.out y h).up (by omega)
   ·rw [List.mem_singleton] at h; subst h; exact HB0.out.up (by omega)) (by omega))
  clear xx yy ff gg
  go_wp2
  refine ⟨rfl,.agg (xCs t (.slice (some ⟨g2,0,none⟩) (L + 1) cap2)),(by rw [results_cell1 rfl]; go_simp; rfl),?_⟩
  exact HFN.out
 ·have t0:(m8 == 0) = false:=beq_eq_false_iff_ne.2 (by omega)
  have t1:(m8 == 1) = false:=beq_eq_false_iff_ne.2 (by omega)
  have t2:(m8 == 2) = false:=beq_eq_false_iff_ne.2 (by omega)
  have t3:(m8 == 3) = false:=beq_eq_false_iff_ne.2 (by omega)
  have t4:(m8 == 4) = false:=beq_eq_false_iff_ne.2 (by omega)
  have hkl1:k < l1.length:=by rw [HL1.out]; exact hk
  have hlk:l1[k] = (x,.slice Ak x.paras.length ck):=by have h:=HK1.out; rw [List.getElem?_eq_getElem hkl1] at h; injection h
  have hc8:=(Own.cellAt (enc:=fun x:Scene × Value=>x.1.cells x.2) (hn:=fun _=>rfl) I8.out.gs.own k hkl1 4 (by decide)).1
  rw [hlk] at hc8
  have c8:w8.cell? ⟨g,k * 5 + 4,none⟩ = some (.slice Ak x.paras.length ck):=hc8
  have HX:=Lib.hid (show sceneBm N x from HB1.out _ (List.mem_iff_getElem?.2 ⟨k,HK1.out⟩))
  obtain ⟨⟨x0,x1⟩,⟨y0,y1⟩,_,f0,f1⟩:=I8.out.cells
  clear hc8 hlk HMOD HSF1
  have HP:=Lib.hid (rfl:x.paras.length = x.paras.length)
  revert HP
  generalize hPg:x.paras.length = P at *
  intro HP
  have HPG:=Lib.hid hPg
  clear hPg HP
  by_cases hP0:P = 0
  ·have hgt:¬ 0 < (P:Int):=by omega
   subst hP0
   have HFN:=Lib.hid (I8.out.fin (m0:=l.length) (N:=N + 10) (M:=M + 1) (k0:=k0) (dk:=20) (fun y hy=>by
    rw [HK1.out] at hy
    injection hy with hy
    subst hy
    exact HOKF.out _ _ _ OK8.out) ht (by rw [HL1.out,HL.out]; omega) (fun y hy=>(HB1.out y hy).up (by omega)) (by omega))
   clear HPG OK8 HOKF HK1 HB1 HX I8 HL1
   go_wp2
   refine ⟨rfl,.agg (xCs t (.slice (some ⟨g,0,none⟩) L c2)),(by rw [results_cell1 rfl]; go_simp; rfl),?_⟩
   exact HFN.out
  ·have hgt:0 < (P:Int):=by omega
   clear f0 f1 y0 y1 x0 x1
   go_wp2_with fail
   refine (next_c sb n8 P w8 I8.out.gs.str (by omega) (by omega) (by omega)).mono ?_
   rintro e w9 ⟨v9,n9,rfl,⟨m9,hm0,hm1,rfl⟩,hn9,hs9,hg9⟩
   obtain ⟨i,rfl⟩:=Int.eq_ofNat_of_zero_le hm0
   obtain ⟨d,rfl⟩:∃ d,P = i + d + 1:=⟨P - i - 1,by omega⟩
   have I9:=Lib.hid (I8.out.turn hg9 hs9)
   have O9:=Lib.hid (show Own paraR w9 w5.heap.size w5.heap.size 78 x.paras (.slice Ak (i + d + 1) ck) from Own.keepF (enc:=Para.cells) (hn:=fun _=>rfl) OK8.out (fun q hq=>hg9.block q (OK8.out.block q hq).2 (fun e=>by injection e with e; have:=(OK8.out.block q hq).1; omega)) hg9.size)
   clear hs9 hg9 I8 OK8 c8 hm0 hm1 hgt hP0
   go_wp2_with fail
   refine (flip_c sb n9 3 w9 I9.out.gs.str (by omega) (by decide) (by decide)).mono ?_
   rintro e wa ⟨va,na,rfl,⟨ba,rfl⟩,hna,hsa,hga⟩
   have Ia:=Lib.hid (I9.out.turn hga hsa)
   have Oa:=Lib.hid (show Own paraR wa w5.heap.size w5.heap.size 78 x.paras (.slice Ak (i + d + 1) ck) from Own.keepF (enc:=Para.cells) (hn:=fun _=>rfl) O9.out (fun q hq=>hga.block q (O9.out.block q hq).2 (fun e=>by injection e with e; have:=(O9.out.block q hq).1; omega)) hga.size)
   clear hsa hga I9 O9
   obtain ⟨gk,ck',hvk,hgk1,hgk2⟩:=Own.some_ (enc:=Para.cells) (hn:=fun _=>rfl) Oa.out (by rw [HPG.out]; omega)
   rw [HPG.out] at hvk
   injection hvk with hv1 _ hv3
   subst hv1
   subst hv3
   have hil:i < x.paras.length:=by rw [HPG.out]; omega
   have ha4:=Own.cellAt (enc:=fun x:Scene × Value=>x.1.cells x.2) (hn:=fun _=>rfl) Ia.out.gs.own k hkl1 4 (by decide)
   have ca:wa.cell? ⟨g,k * 5 + 4,none⟩ = some (.slice (some ⟨gk,0,none⟩) (i + d + 1) ck):=by
    have h:=ha4.1
    rw [show l1[k] = (x,.slice (some ⟨gk,0,none⟩) (i + d + 1) ck) by have h:=HK1.out; rw [List.getElem?_eq_getElem hkl1] at h; injection h] at h
    exact h
   have fa:=ha4.2
   clear ha4
   have hgs5:g < w5.heap.size:=hg5
   have HNEW:=Lib.hid (fun (lp:List Para) (vn:Value) (n:Int) (wz:World) (I:SpI F w sb w5.heap.size k t l1 (.slice (some ⟨g,0,none⟩) L c2) n wz) (hS:Sli paraR wz (fun q=>q = gk) lp vn) (hgz:gk < wz.heap.size) (hn:n ≤ k0 + 20) (hlp:lp.length ≤ 60 ∧ ∀ p ∈ lp,p.text.size ≤ N + 10)=>
    show SpI F w sb w5.heap.size k t (l1.modify k fun y=>({ y.1 with paras:=lp },vn)) (.slice (some ⟨g,0,none⟩) L c2) n (wz.setCell ⟨g,k * 5 + 4,none⟩ vn) ∧ Took sb k0 20 (isSpM F l.length (N + 10) (M + 1) w) w (.returned (.agg (xCs t (.slice (some ⟨g,0,none⟩) L c2)))) (((wz.setCell ⟨g,k * 5 + 4,none⟩ vn).setCell ⟨w.heap.size + 1,0,none⟩ (.string t)).setCell ⟨w.heap.size + 1,1,none⟩ (.slice (some ⟨g,0,none⟩) L c2)) from by
     have I2:=I.mod (j:=4) (fun y=>({ y.1 with paras:=lp },vn)) vn (fun _=>rfl) (by decide) (by rw [HL1.out]; exact hk)
     refine ⟨I2,I2.fin (fun y hy=>?_) ht (by rw [List.length_modify,HL1.out,HL.out]; omega) (fun y hy=>?_) hn⟩
     ·rw [List.getElem?_modify,HK1.out] at hy
      simp at hy
      subst hy
      exact (hS.keep fun q hq=>Below.heap_setCell wz _ _ q (fun e=>by dsimp only at e hq; omega)).more fun q hq=>.inr ⟨by omega,by rw [show (wz.setCell ⟨g,k * 5 + 4,none⟩ vn).heap.size = wz.heap.size by simp [World.setCell]]; rw [hq]; exact hgz⟩
     ·rcases mem_mod hy with hy | ⟨z,hz,rfl⟩
      ·exact (HB1.out y hy).up (by omega)
      ·exact ⟨(HB1.out z hz).1,(HB1.out z hz).2.1,hlp.1,hlp.2⟩)
   cases ba with
   | true=>
    have hsp:x.paras = x.paras.take i ++ x.paras[i] :: x.paras.drop (i + 1):=by rw [List.getElem_cons_drop,List.take_append_drop]
    have hl1:(x.paras.take i).length = i:=by rw [List.length_take]; omega
    have hl2:(x.paras.drop (i + 1)).length = d:=by rw [List.length_drop,HPG.out]; omega
    have hdl:=delPara_c gk i d ck w5.heap.size w5.heap.size (x.paras.take i) (x.paras.drop (i + 1)) (x.paras[i]) wa (by rw [← hsp]; exact Oa.out) hl1 hl2 (by omega)
    have hmem:∀ p ∈ x.paras.take i ++ x.paras.drop (i + 1),p ∈ x.paras:=fun p hp=>by
     rcases List.mem_append.1 hp with h | h
     ·exact List.mem_of_mem_take h
     ·exact List.mem_of_mem_drop h
    have hln:(x.paras.take i ++ x.paras.drop (i + 1)).length ≤ 60:=by rw [List.length_append,hl1,hl2]; have:=HX.out.2.2.1; rw [HPG.out] at this; omega
    have HDL:=Lib.hid hdl
    have HME:=Lib.hid (And.intro hln hmem)
    generalize x.paras.take i ++ x.paras.drop (i + 1) = lp at *
    clear hdl hsp hl1 hl2 hmem hln
    go_wp2_with fail
    refine HDL.out.mono ?_
    rintro e wb ⟨rfl,hSb,hgb⟩
    have hzb:=hgb.size
    obtain ⟨I2,hfin⟩:=HNEW.out lp _ na wb (Ia.out.inner hgb hgk1 (by omega) (fun e=>by have e2:some g = some gk:=e; injection e2 with e2; omega)) hSb (by omega) (by omega) ⟨HME.out.1,fun p hp=>Nat.le_trans (HX.out.2.2.2 p (HME.out.2 p hp)) (by omega)⟩
    have I10:=Lib.hid I2
    have HFN:=Lib.hid hfin
    have hgkg:g ≠ gk:=by omega
    have cb:wb.cell? ⟨g,k * 5 + 4,none⟩ = some (.slice (some ⟨gk,0,none⟩) (i + d + 1) ck):=(World.cell?_of_block (hgb.block g (by have:=(Ia.out.gs.own.block g rfl).2; omega) (fun e=>by injection e with e; omega))).trans ca
    have fb:wb.frozen? ⟨g,k * 5 + 4,none⟩ = false:=(World.frozen?_of_block (hgb.block g (by have:=(Ia.out.gs.own.block g rfl).2; omega) (fun e=>by injection e with e; omega))).trans fa
    clear Ia Oa hgb hSb I2 hfin HNEW HDL HME ca fa
    go_upto_region 24 with (fail)
    clear cb fb
    generalize wb.setCell ⟨g,k * 5 + 4,none⟩ (.slice (some ⟨gk,0,none⟩) (i + d) ck) = wA at *
    obtain ⟨⟨x0,x1⟩,⟨y0,y1⟩,_,f0,f1⟩:=I10.out.cells
    go_wp2
    refine ⟨rfl,.agg (xCs t (.slice (some ⟨g,0,none⟩) L c2)),(by rw [results_cell1 rfl]; go_simp; rfl),?_⟩
    exact HFN.out
   | false=>
    have hpi:=fun j (hj:j < 2)=>Own.cellAt (enc:=Para.cells) (hn:=fun _=>rfl) Oa.out i hil j hj
    have hmi:=List.getElem_mem hil
    have hpz:=HX.out.2.2.2 _ hmi
    generalize hz0:x.paras[i]'hil = z0 at *
    obtain ⟨zk,zt⟩:=z0
    have p0:wa.cell? ⟨gk,i * 2,none⟩ = some (.int .i64 zk):=(hpi 0 (by decide)).1
    have p1:wa.cell? ⟨gk,i * 2 + 1,none⟩ = some (.string zt):=(hpi 1 (by decide)).1
    obtain ⟨ι,ff,hne,hff,hfS⟩:=family (fun W=>W.cell? ⟨g,k * 5 + 4,none⟩ = some (.slice (some ⟨gk,0,none⟩) (i + d + 1) ck) ∧ W.cell? ⟨gk,i * 2,none⟩ = some (.int .i64 zk) ∧ W.cell? ⟨gk,i * 2 + 1,none⟩ = some (.string zt)) wa ⟨ca,p0,p1⟩
    have q0:=fun p=>(hff p).1
    have q1:=fun p=>(hff p).2.1
    have q2:=fun p=>(hff p).2.2
    have HFS:=Lib.hid hfS
    have HZ:=Lib.hid (show wa.cell? ⟨g,k * 5 + 4,none⟩ = some (.slice (some ⟨gk,0,none⟩) (i + d + 1) ck) ∧ wa.cell? ⟨gk,i * 2,none⟩ = some (.int .i64 zk) ∧ wa.cell? ⟨gk,i * 2 + 1,none⟩ = some (.string zt) from ⟨ca,p0,p1⟩)
    have HSPP:=Lib.hid (spoiledPara_c sb N na zk zt wa.drew Ia.out.drew.gs.str (by omega) hpz hN (by omega))
    have hlt1:(i:Int) < (i:Int) + d + 1:=by omega
    clear hff hfS p0 p1 ca fa hpi hmi hz0 hpz
    go_upto_region 13 with (fail)
    refine wp_region_segs2 [13] [] [] [([0,1,2,4,5,6,7,8,10],[3,9,11,12],13),([14],[],15)] (by kernel_rfl) (by kernel_rfl) (fun _ _ _ dd _ h=>by cases dd <;> exact h) (fun W=>∃ p:ι,W = ff p) (HFS.out _ HZ.out) ?_
    refine wpSegs2_step (by simp only [pick,List.getElem?_cons_succ,List.getElem?_cons_zero]; rfl) (by simp only [pick,List.getElem?_cons_succ,List.getElem?_cons_zero]; rfl) rfl (fun K0 hK0 L0 hL0=>?_)
    repeat (first | go_big_quiet_step (fail) | quiet_step (fail))
    refine wpQuiet_nil (hL0 _ ?_)
    repeat (first | go_big_quiet_step (fail) | quiet_step (fail))
    refine wpQuiet_nil ?_
    go_simp
    refine HSPP.out.mono ?_
    rintro e wb ⟨vb,nb,rfl,⟨⟨bk,bt⟩,hvb,hbt⟩,hnb,hsb2,hgb⟩
    obtain rfl:vb = .agg #[.int .i64 bk,.string bt]:=hvb
    have hzb:=hgb.size
    have hkb:∀ b,b < wa.heap.size → b ≠ sb → wb.heap[b]? = wa.heap[b]?:=fun b hb hne=>hgb.block b hb (fun e=>hne (by injection e with e))
    have Ib:=Lib.hid ((Ia.out.drew).turn hgb hsb2)
    have Ob:=Lib.hid (show Own paraR wb w5.heap.size w5.heap.size 78 x.paras (.slice (some ⟨gk,0,none⟩) (i + d + 1) ck) from Own.keepF (enc:=Para.cells) (hn:=fun _=>rfl) Oa.out (fun q hq=>hkb q (Oa.out.block q hq).2 (by have:=(Oa.out.block q hq).1; omega)) hzb)
    have hga:g < wa.heap.size:=(Ia.out.gs.own.block g rfl).2
    have hgsb:g ≠ sb:=by have h1:=(Ia.out.gs.own.block g rfl).1; have h2:=Ia.out.gs.lt; omega
    have hgks:gk ≠ sb:=by omega
    have hZb:wb.cell? ⟨g,k * 5 + 4,none⟩ = some (.slice (some ⟨gk,0,none⟩) (i + d + 1) ck) ∧ wb.cell? ⟨gk,i * 2,none⟩ = some (.int .i64 zk) ∧ wb.cell? ⟨gk,i * 2 + 1,none⟩ = some (.string zt):=
     ⟨(World.cell?_of_block (hkb g hga hgsb)).trans HZ.out.1,(World.cell?_of_block (hkb gk hgk2 hgks)).trans HZ.out.2.1,(World.cell?_of_block (hkb gk hgk2 hgks)).trans HZ.out.2.2⟩
    refine hK0 (fun W=>∃ p:ι,W = ff p) _ _ (fun _ h=>h) (HFS.out _ hZb) ?_
    have hb0:=(Own.cellAt (enc:=Para.cells) (hn:=fun _=>rfl) Ob.out i hil 0 (by decide)).2
    have hb1:=(Own.cellAt (enc:=Para.cells) (hn:=fun _=>rfl) Ob.out i hil 1 (by decide)).2
    have b0:wb.cell? ⟨gk,i * 2,none⟩ = some (.int .i64 zk):=hZb.2.1
    have b1:wb.cell? ⟨gk,i * 2 + 1,none⟩ = some (.string zt):=hZb.2.2
    have g0:wb.frozen? ⟨gk,i * 2,none⟩ = false:=hb0
    have g1:wb.frozen? ⟨gk,i * 2 + 1,none⟩ = false:=hb1
    have OB2:=Own.modify (enc:=Para.cells) (hn:=fun _=>rfl) (Own.modify (enc:=Para.cells) (hn:=fun _=>rfl) Ob.out (fun p=>{ p with kind:=bk }) i 0 (.int .i64 bk) (fun _=>rfl) (by decide) hil) (fun p=>{ p with text:=bt }) i 1 (.string bt) (fun _=>rfl) (by decide) (by rw [List.length_modify]; exact hil)
    rw [Nat.add_zero] at OB2
    have hlpl:((x.paras.modify i fun p=>{ p with kind:=bk }).modify i fun p=>{ p with text:=bt }).length = i + d + 1:=by rw [List.length_modify,List.length_modify]; exact HPG.out
    have hlpb:∀ p ∈ (x.paras.modify i fun p=>{ p with kind:=bk }).modify i fun p=>{ p with text:=bt },p.text.size ≤ N + 10:=fun p hp=>by
     rcases mem_mod hp with hp | ⟨q,hq,rfl⟩
     ·rcases mem_mod hp with hp | ⟨q,hq,rfl⟩
      ·exact Nat.le_trans (HX.out.2.2.2 p hp) (by omega)
      ·exact Nat.le_trans (HX.out.2.2.2 q hq) (by omega)
     ·exact hbt
    have hgrow:wb.grownBy ((wb.setCell ⟨gk,i * 2,none⟩ (.int .i64 bk)).setCell ⟨gk,i * 2 + 1,none⟩ (.string bt)) (some gk):=gbTrans (grown_setCell _ _ _ _) (grown_setCell _ _ _ _)
    have Ic:=(Ib.out.inner hgrow hgk1 (by omega) (fun e=>by have e2:some g = some gk:=e; injection e2 with e2; omega)).ghost (fun y=>({ y.1 with paras:=(x.paras.modify i fun p=>{ p with kind:=bk }).modify i fun p=>{ p with text:=bt } },y.2)) (fun _=>rfl)
    have hzc:((wb.setCell ⟨gk,i * 2,none⟩ (.int .i64 bk)).setCell ⟨gk,i * 2 + 1,none⟩ (.string bt)).heap.size = wb.heap.size:=by simp [World.setCell]
    have hfin:=Ic.fin (m0:=l.length) (N:=N + 10) (M:=M + 1) (k0:=k0) (dk:=20) (fun y hy=>by
     rw [List.getElem?_modify,HK1.out] at hy
     simp at hy
     subst hy
     exact HOKF.out _ _ _ OB2) ht (by rw [List.length_modify,HL1.out,HL.out]; omega) (fun y hy=>by
     rcases mem_mod hy with hy | ⟨z,hz,rfl⟩
     ·exact (HB1.out y hy).up (by omega)
     ·exact ⟨(HB1.out z hz).1,(HB1.out z hz).2.1,by show List.length _ ≤ 60; rw [hlpl]; have:=HX.out.2.2.1; rw [HPG.out] at this; exact this,hlpb⟩) (by omega)
    have I10:=Lib.hid Ic
    have HFN:=Lib.hid hfin
    clear hZb hb0 hb1 OB2 hlpl hlpb hgrow Ic hfin hkb Ob Ib Ia Oa HNEW HZ hgb hsb2 HSPP
    refine wpSegs2_last (by simp only [pick,List.getElem?_cons_succ,List.getElem?_cons_zero]; rfl) (by simp only [pick,List.getElem?_cons_succ,List.getElem?_cons_zero]; rfl) rfl (by rfl) (fun K1 hK1 L1 hL1=>?_)
    repeat (first | go_big_quiet_step (fail) | quiet_step (fail))
    refine wpQuiet_nil (hL1 _ ?_)
    repeat (first | go_big_quiet_step (fail) | quiet_step (fail))
    refine wpQuiet_nil ?_
    go_simp
    refine hK1 _ _ (wpSegs2_end ?_)
    clear q0 q1 q2
    go_upto_region 24 with (fail)
    clear b0 b1 g0 g1
    generalize (wb.setCell ⟨gk,i * 2,none⟩ (.int .i64 bk)).setCell ⟨gk,i * 2 + 1,none⟩ (.string bt) = wC at *
    obtain ⟨⟨x0,x1⟩,⟨y0,y1⟩,_,f0,f1⟩:=I10.out.cells
    go_wp2
    refine ⟨rfl,.agg (xCs t (.slice (some ⟨g,0,none⟩) L c2)),(by rw [results_cell1 rfl]; go_simp; rfl),?_⟩
    exact HFN.out
theorem SpoiledScript_c {F:Nat → Prop} (sb N M:Nat) (k0:Int) (t:ByteArray) (l:List (Scene × Value)) (v0:Value) (w:World) (hs:Str w sb k0) (hk0:k0 ≤ 3900000000000000000) (h:Sli svR w F l v0) (hp:∀ y ∈ l,Sli paraR w F y.1.paras y.2) (hF:∀ q,F q → q < w.heap.size ∧ q ≠ sb)
  (ht:t.size ≤ 1000) (hl:l.length ≤ M) (hM:M ≤ 1000) (hb:∀ y ∈ l,sceneBm N y.1) (hN:2001 ≤ N) (hN2:N ≤ 100000) :
  Calls Tryz.prog 15 #[.pointer (some ⟨sb,0,none⟩),.agg #[.string t,v0]] w (Took sb k0 20 (isSp F (N + 10) (M + 1) w) w):=
 (SpoiledScriptM_c sb N M k0 t l v0 w hs hk0 h hp hF ht hl hM hb hN hN2).mono fun _ _ h=>
  have ⟨v,n,e,hv,hr⟩:=h
  ⟨v,n,e,hv.sp,hr⟩
end Go.Proofs.YtaoobkgepcikiaaGreatDoor
