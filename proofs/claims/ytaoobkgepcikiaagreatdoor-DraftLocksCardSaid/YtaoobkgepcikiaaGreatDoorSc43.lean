/- Texts packed: LawDraftLocks. -/
import Derived.Test.YtaoobkgepcikiaaGreatDoorRows
import Derived.Test.YtaoobkgepcikiaaGreatDoorSc24
import Derived.Test.YtaoobkgepcikiaaGreatDoorSc42
import Derived.Test.YtaoobkgepcikiaaGreatDoorSc29
import Derived.Test.YtaoobkgepcikiaaGreatDoorSc02
import Derived.Deep.DeepCutAuto
namespace Go.Proofs.YtaoobkgepcikiaaGreatDoor
set_option linter.unusedVariables false
open Go.RowKit Go.Sort
theorem Sct.story {W0 wx wy:World} {E:Nat → Prop} {v:Value} (hz0:W0.heap.size ≤ wx.heap.size) (hE:∀ q,E q → q < wx.heap.size) (h:isScript wx v wy):∃ t l A n c,v = .agg (xCs t (.slice A n c)) ∧ l.length = n ∧ Sct W0 E 10010 91 t l (.slice A n c) wy:=by
 obtain ⟨x,l,sv,rfl,hxs,hown,hin,hbd⟩:=h
 have hs:=hown.sli (F:=fun q=>W0.heap.size ≤ q ∧ q < wy.heap.size ∧ ¬ E q) (fun q h1 h2=>⟨by omega,h2,fun e=>by have:=hE q e; omega⟩) (fun g hg=>by
  have:=hown.block g hg
  exact ⟨by omega,this.2,fun e=>by have:=hE g e; omega⟩)
 obtain ⟨A,c,rfl,_,_⟩:=hs.form
 refine ⟨x.title,l,A,l.length,c,rfl,rfl,hs,fun y hy=>(hin y hy).more fun q hq=>⟨by have:=hq.1; omega,hq.2.1,fun e=>by have:=hE q e; have:=hq.1; omega⟩,hbd.1,by have:=hbd.2.1; rw [hxs,List.length_map] at this; omega,fun y hy=>(sceneBm.of (hbd.2.2 _ (by rw [hxs]; exact List.mem_map_of_mem hy))).up (by decide)⟩
set_option maxRecDepth 100000 in
set_option maxHeartbeats 8000000 in
theorem DraftLocks_c (A:Option Addr) (l:List Int) (c:Nat) (w:World) (hr:Rs w 0 w.heap.size 1 intc A l) (hl:l.length ≤ 17592186044416) (ho:∀ x ∈ l,okI x) (he:ErrsLaid w) (hp:PowLaid w) (hs:SpLaid w) (hm:MaxLaid w) :
  Calls Tryz.prog 3 #[.slice A l.length c] w fun e w'=>e = .returned (.bool true) ∧ Below w.heap.size w w':=by
 have S0:=strNew w A l c hr hl ho
 have HP:=Lib.hid (show PowS w.heap.size (w.alloc (.cells #[.slice A l.length c,.int .i64 0] 25)) from (PowS.start hp).keep fun b hb=>Below.heap_alloc w _ b hb)
 have HLA:=Lib.hid (fun (W:World) (hb:Below w.heap.size w W)=>show MaxLaid W ∧ ErrsLaid W ∧ PowLaid W ∧ SpLaid W from ⟨max_below hm hb (Nat.le_refl _),he.below hb (Nat.le_refl _),pow_below hp hb (Nat.le_refl _),sp_below hs hb (Nat.le_refl _)⟩)
 have HLS:=Lib.hid (fun (W:World) (hb:Below w.heap.size w W)=>(LaidS.start he hp).below hb (Nat.le_refl _))
 have HGE:=Lib.hid (fun (n:Int) (wx:World) P (h:PvS (w.alloc (.cells #[.slice A l.length c,.int .i64 0] 25)) w.heap.size P n wx)=>show Below w.heap.size w wx from gEnd h.gr)
 have hsb:w.heap.size < (w.alloc (.cells #[.slice A l.length c,.int .i64 0] 25)).heap.size:=by simp
 have G0:=Lib.hid (GS.start (R:=dumR) (e:=3) S0)
 clear hr ho hp hs hm he S0
 go_enter Tryz.func3,Tryz.ntmps3
 go_upto_region 2 with (fail)
 generalize w.alloc (.cells #[.slice A l.length c,.int .i64 0] 25) = W0 at *
 go_wp2_with fail
 refine (AnyScript_c w.heap.size 0 W0 G0.out.str (by decide) HP.out).mono ?_
 rintro e w1 ⟨v1,n1,rfl,⟨t1,l1,sv1,rfl,hsp⟩,hn1,hs1,hg1⟩
 obtain ⟨A1,c1,hv1,_,_⟩:=hsp.1.form
 subst hv1
 obtain ⟨l2,hx⟩:=Sct.any ⟨t1,l1,_,rfl,hsp⟩
 have hG1:=G0.out.turn hg1 hs1
 generalize hL1:l1.length = Lx at *
 have hG2:=hG1.new (xCs t1 (.slice A1 Lx c1)) 28
 have hx2:=hx.alloc (E':=fun q=>q = w1.heap.size) (.cells (xCs t1 (.slice A1 Lx c1)) 28) (fun q h e=>by omega)
 have hL2:l2.length = Lx:=by
  obtain ⟨_,_,e,_⟩:=hx.sli.form
  injection e with _ e _
  exact e.symm
 have hXs:W0.heap.size ≤ w1.heap.size:=hG1.size
 clear hsp hs1 hg1 G0 hG1 hx hL1
 rw [show xCs t1 (.slice A1 Lx c1) = #[.string t1,.slice A1 Lx c1] from rfl]
 go_upto_region 3 with (fail)
 generalize hW:w1.alloc (.cells #[.string t1,.slice A1 Lx c1] 28) = w2
 have G2:=Lib.hid (show PvS W0 w.heap.size [(w1.heap.size,xCs t1 (.slice A1 Lx c1),28)] n1 w2 by rw [← hW]; exact hG2)
 have X2:=Lib.hid (show Sct W0 (fun q=>q = w1.heap.size) 10010 91 t1 l2 (.slice A1 Lx c1) w2 by rw [← hW]; exact hx2)
 have HL2:=Lib.hid hL2
 clear hW hG2 hx2 hL2
 generalize w1.heap.size = X at *
 go_wp2_with fail
 refine (flip_c w.heap.size n1 3 w2 G2.out.str (by omega) (by omega) (by omega)).mono ?_
 rintro e w3 ⟨v3,n3,rfl,⟨b3,rfl⟩,hn3,hs3,hg3⟩
 have G3:=Lib.hid (G2.out.turn hg3 hs3)
 have X3:=Lib.hid (X2.out.turn hsb hg3)
 clear hs3 hg3 G2 X2
 go_upto_if 15 with (fail)
 go_cut [] (fun wx=>∃ (t:ByteArray) (ls:List (Scene × Value)) (B:Option Addr) (n b:Nat) (k:Int),Hid (ls.length = n) ∧ Hid (PvS W0 w.heap.size [(X,xCs t (.slice B n b),28)] k wx) ∧ Hid (Sct W0 (fun q=>q = X) 10010 91 t ls (.slice B n b) wx))
 case first=>
  cases b3 with
  | false=>
   go_wp2
   go_meet
   exact ⟨t1,l2,A1,Lx,c1,n3,HL2,G3,X3⟩
  | true=>
   have hXz:X < w3.heap.size:=G3.out.plt (p:=(X,xCs t1 (.slice A1 Lx c1),28)) (by simp)
   go_wp2_with fail
   refine (Story_c w.heap.size n3 w3 G3.out.str (by omega) (HLS.out w3 (HGE.out _ _ _ G3.out))).mono ?_
   rintro e w4 ⟨v4,n4,rfl,hst,hn4,hs4,hg4⟩
   obtain ⟨t4,l4,A4,m4,c4,rfl,hl4,hx4⟩:=Sct.story (W0:=W0) (E:=fun q=>q = X) G3.out.size (fun q h=>by subst h; exact hXz) hst
   have HL4:=Lib.hid hl4
   have G4:=Lib.hid (G3.out.turn hg4 hs4)
   have X4:=Lib.hid ((hx4.set X 0 (.string t4) rfl).set X 1 (.slice A4 m4 c4) rfl)
   have hX4:=str_cells (G4.out.prv (X,xCs t1 (.slice A1 Lx c1),28) (by simp)).1
   have x0:w4.cell? ⟨X,0,none⟩ = some (.string t1):=hX4.1 0
   have x1:w4.cell? ⟨X,1,none⟩ = some (.slice A1 Lx c1):=hX4.1 1
   have f0:w4.frozen? ⟨X,0,none⟩ = false:=hX4.2 0
   have f1:w4.frozen? ⟨X,1,none⟩ = false:=hX4.2 1
   have hXz4:X < w4.heap.size:=by have:=hg4.size; omega
   have G5:=Lib.hid ((G4.out.set (i:=0) (fun h=>h) (.string t4) (by simp)).set (i:=1) (fun h=>h) (.slice A4 m4 c4) (by simp))
   clear hst hl4 hx4 hs4 hg4 hX4 G4 G3 X3
   unfold xCs
   go_wp2
   go_meet
   exact ⟨t4,l4,A4,m4,c4,n4,HL4,G5,X4⟩
 case rest=>
  obtain ⟨t,ls,B,n,b,k,HLN,G6,X6⟩:=hcut
  clear X3 G3 HL2
  obtain ⟨xs,hxs⟩:∃ xs,ls.map (·.1) = xs:=⟨_,rfl⟩
  have HXS:=Lib.hid hxs
  clear hxs
  have hn91:n ≤ 91:=by rw [← HLN.out]; exact X6.out.len
  have HPN:=Lib.hid (show ∀ y ∈ ls,y.1.paras.length ≤ 61 from fun y hy=>Nat.le_trans (X6.out.bd y hy).2.2.1 (by decide))
  have HPX:=Lib.hid (show xs.length ≤ 500 ∧ ∀ x ∈ xs,x.paras.length ≤ 61 from by
   rw [← HXS.out,List.length_map,HLN.out]
   exact ⟨by omega,fun x hx=>by
    obtain ⟨y,hy,rfl⟩:=List.mem_map.1 hx
    exact HPN.out y hy⟩)
  have HCL:=Lib.hid (fun (W:World) (hW:W.heap[X]? = some (.cells (xCs t (.slice B n b)) 28 (0,0)))=>show W.cell? ⟨X,0,none⟩ = some (.string t) ∧ W.cell? ⟨X,1,none⟩ = some (.slice B n b) from
   have ⟨x,_⟩:=str_cells hW
   ⟨x 0,x 1⟩)
  obtain ⟨x0,x1⟩:=HCL.out _ (G6.out.prv (X,xCs t (.slice B n b),28) (by simp)).1
  have hXz:X < wc.heap.size:=G6.out.plt (p:=(X,xCs t (.slice B n b),28)) (by simp)
  have HXB:=Lib.hid (fun (W:World) (hb:Below wc.heap.size wc W)=>HCL.out W ((hb.block X hXz).trans (G6.out.prv (X,xCs t (.slice B n b),28) (by simp)).1))
  have HB6:=Lib.hid (HGE.out _ _ _ G6.out)
  have hzw:=HB6.out.size
  have HSC:=Lib.hid (fun (W:World) (hb:Below wc.heap.size wc W)=>(X6.out.scl (by decide) (by decide)).below hb)
  have HLK:=Lib.hid (show Calls Tryz.prog 7 #[.agg #[.string t,.slice B n b]] wc (fun e w'=>∃ d,e = .returned (.tuple #[d,.int .i64 (lockE ⟨t,xs⟩)]) ∧ Below wc.heap.size wc w' ∧ DrW w' (fun q=>q < w'.heap.size) (lkT t xs) (lkN t xs) (lkX t xs) (lkL t xs) d) from by
   have hla:=HLA.out wc HB6.out
   have h1:=rvLock_c t ls (.slice B n b) wc (HSC.out wc (Below.refl _ _)) (by rw [HLN.out]; exact hn91) hla.1 hla.2.1 hla.2.2.1 (by rw [HXS.out]; exact fun hc hb=>nb_sorts hc hb HPX.out.1 HPX.out.2)
   rw [HXS.out] at h1
   exact h1.mono fun e w' h=>lockP_w h)
  have HLO:=Lib.hid (fun (W:World) (hb:Below wc.heap.size wc W)=>show Calls Tryz.prog 8 #[.agg #[.string t,.slice B n b]] W (fun e w'=>∃ d,e = .returned (.tuple #[d,.int .i64 (lockE ⟨t,xs⟩)]) ∧ Below W.heap.size W w' ∧ DrW w' (fun q=>q < w'.heap.size) (lkT t xs) (lkN t xs) (lkX t xs) (lkL t xs) d) from by
   have hla:=HLA.out W (HB6.out.trans (hb.mono hzw))
   have h1:=lockOf_c t ls (.slice B n b) W (HSC.out W hb) (by rw [HLN.out]; exact hn91) HPN.out hla.1 hla.2.1 hla.2.2.1 hla.2.2.2
   rw [HXS.out] at h1
   exact h1.mono fun e w' h=>lockR_w h)
  generalize lockE ⟨t,xs⟩ = E at *
  generalize lkT t xs = t' at *
  generalize lkN t xs = dn at *
  generalize lkX t xs = xs' at *
  generalize lkL t xs = lf at *
  clear G6 X6 HCL HSC HXS HLN HPN HPX
  go_upto_region 5 with (fail)
  go_wp2_with fail
  refine HLK.out.mono ?_
  rintro e w7 ⟨d1,rfl,hb7,hd1⟩
  obtain ⟨C1,C2,m1,k1,m2,k2,e1⟩:=hd1.cells
  subst e1
  have H1:=Lib.hid hd1
  have HB7:=Lib.hid hb7
  have HC8:=Lib.hid (heap_alloc_new w7 (.cells (drC dn t' (.slice C1 m1 k1) (.slice none 0 0) (.slice C2 m2 k2)) 34))
  have HB8:=Lib.hid (hb7.alloc hb7.size (.cells (drC dn t' (.slice C1 m1 k1) (.slice none 0 0) (.slice C2 m2 k2)) 34))
  have H8:=Lib.hid ((hd1.below ((Below.refl _ w7).alloc (Nat.le_refl _) (.cells (drC dn t' (.slice C1 m1 k1) (.slice none 0 0) (.slice C2 m2 k2)) 34))))
  clear hd1 hb7 H1 x0 x1 HLK
  unfold drC at *
  go_upto_region 6 with (fail)
  generalize hW8:w7.alloc (.cells #[.int .i64 dn,.string t',.slice C1 m1 k1,.slice none 0 0,.slice C2 m2 k2] 34) = w8 at *
  have hD1:w7.heap.size < w8.heap.size:=by rw [← hW8]; simp
  clear hW8
  generalize w7.heap.size = D1 at *
  have HDA:=Lib.hid (fun (W:World) (hb:Below w8.heap.size w8 W)=>show W.cell? ⟨D1,0,none⟩ = some (.int .i64 dn) ∧ W.cell? ⟨D1,1,none⟩ = some (.string t') ∧ W.cell? ⟨D1,2,none⟩ = some (.slice C1 m1 k1) ∧ W.cell? ⟨D1,3,none⟩ = some (.slice none 0 0) ∧ W.cell? ⟨D1,4,none⟩ = some (.slice C2 m2 k2) from
   have a:=(str_cells ((hb.block D1 hD1).trans HC8.out)).1
   ⟨a 0,a 1,a 2,a 3,a 4⟩)
  have hz68:=HB8.out.size
  obtain ⟨x0,x1⟩:=HXB.out w8 HB8.out
  have HL8:=Lib.hid (HLO.out w8 HB8.out)
  clear HLO HC8 HB7
  go_wp2_with fail
  refine HL8.out.mono ?_
  rintro e w9 ⟨d2,rfl,hb9,hd2⟩
  obtain ⟨C3,C4,m3,k3,m4,k4,e2⟩:=hd2.cells
  subst e2
  have HC9:=Lib.hid (heap_alloc_new w9 (.cells (drC dn t' (.slice C3 m3 k3) (.slice none 0 0) (.slice C4 m4 k4)) 34))
  have HB9:=Lib.hid (hb9.alloc hb9.size (.cells (drC dn t' (.slice C3 m3 k3) (.slice none 0 0) (.slice C4 m4 k4)) 34))
  have H9:=Lib.hid (hd2.below ((Below.refl _ w9).alloc (Nat.le_refl _) (.cells (drC dn t' (.slice C3 m3 k3) (.slice none 0 0) (.slice C4 m4 k4)) 34)))
  clear hd2 hb9 x0 x1 HL8
  unfold drC at *
  go_upto_region 7 with (fail)
  generalize hW10:w9.alloc (.cells #[.int .i64 dn,.string t',.slice C3 m3 k3,.slice none 0 0,.slice C4 m4 k4] 34) = w10 at *
  have hD2:w9.heap.size < w10.heap.size:=by rw [← hW10]; simp
  clear hW10
  generalize w9.heap.size = D2 at *
  have HDB:=Lib.hid (fun (W:World) (hb:Below w10.heap.size w10 W)=>show W.cell? ⟨D2,0,none⟩ = some (.int .i64 dn) ∧ W.cell? ⟨D2,1,none⟩ = some (.string t') ∧ W.cell? ⟨D2,2,none⟩ = some (.slice C3 m3 k3) ∧ W.cell? ⟨D2,3,none⟩ = some (.slice none 0 0) ∧ W.cell? ⟨D2,4,none⟩ = some (.slice C4 m4 k4) from
   have a:=(str_cells ((hb.block D2 hD2).trans HC9.out)).1
   ⟨a 0,a 1,a 2,a 3,a 4⟩)
  have hz10:=HB9.out.size
  have HB10:=Lib.hid (HB6.out.trans ((HB8.out.trans (HB9.out.mono HB8.out.size)).mono HB6.out.size))
  have HDR:=Lib.hid (by
   have hla:=HLA.out w10 HB10.out
   exact drafts_c w10 hla.1 hla.2.1 hla.2.2.1)
  clear HC9 HXB
  go_wp2_with fail
  refine HDR.out.mono ?_
  rintro e w11 ⟨rfl,hb11⟩
  have HB11:=Lib.hid hb11
  have HSD:=Lib.hid (by
   have hz11:=HB11.out.size
   have e1:=(H8.out.below HB9.out).below HB11.out
   have e2:=H9.out.below HB11.out
   exact sameDr_c w11 e1 e2 (fun q hq=>by omega) (fun q hq=>by omega))
  obtain ⟨a0,a1,a2,a3,a4⟩:=HDA.out w11 (HB9.out.trans (HB11.out.mono HB9.out.size))
  obtain ⟨b0,b1,b2,b3',b4⟩:=HDB.out w11 HB11.out
  have hee:(E == E) = true:=beq_self_eq_true _
  clear hb11 HDR HDA HDB H8 H9
  go_wp2_with fail
  refine HSD.out.mono ?_
  rintro e w12 ⟨rfl,hb12⟩
  have HE:=Lib.hid (HB10.out.trans ((HB11.out.trans (hb12.mono HB11.out.size)).mono HB10.out.size))
  clear hb12 HSD a0 a1 a2 a3 a4 b0 b1 b2 b3' b4
  go_wp2
  go_ret
  exact ⟨rfl,HE.out⟩
end Go.Proofs.YtaoobkgepcikiaaGreatDoor
