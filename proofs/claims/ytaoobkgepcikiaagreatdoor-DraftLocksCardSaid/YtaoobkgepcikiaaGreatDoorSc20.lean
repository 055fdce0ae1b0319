/- Texts packed: RdB, RdC, RdD, SpA. -/
import Derived.Test.YtaoobkgepcikiaaGreatDoorSc13
import Derived.Test.YtaoobkgepcikiaaGreatDoorSc17
import Derived.Test.YtaoobkgepcikiaaGreatDoorSc01
import Derived.Test.YtaoobkgepcikiaaGreatDoorSc08
import Derived.Test.YtaoobkgepcikiaaGreatDoorSc12
import Derived.Test.YtaoobkgepcikiaaGreatDoorSc02
namespace Go.Proofs.YtaoobkgepcikiaaGreatDoor
set_option linter.unusedVariables false
section
open Go.RowKit Go.Sort
end
section
open Go.RowKit Go.Sort
end
section
open Go.RowKit Go.Sort
end
section
open Go.RowKit Go.Sort
abbrev PvS (w:World) (sb:Nat) (P:List (Nat × Array Value × TypeId)) (n:Int) (wx:World):Prop:=GS dumR 3 w sb [] (.slice none 0 0) P n wx
def pCs (k:Int) (s:ByteArray):Array Value:=#[.int .i64 k,.string s]
def isPara (N:Nat) (v:Value) (_:World):Prop:=∃ p:Para,v = .agg (pCs p.kind p.text) ∧ p.text.size ≤ N
theorem rep_sz (s:ByteArray) (c:Nat) (n:Nat) (h:c * s.size ≤ n):(⟨(Lib.repeatL s.data.toList c).toArray⟩:ByteArray).size ≤ n:=by
 have:=Lib.repeatL_length s.data.toList c
 show (Lib.repeatL s.data.toList c).toArray.size ≤ n
 rw [List.size_toArray,this]
 simpa using h
theorem spFin {w wx:World} {sb N:Nat} {k0 n:Int} {k:Int} {s:ByteArray} {b:Nat} {T:TypeId} (h:PvS w sb [(b,pCs k s,T)] n wx) (hs:s.size ≤ N) (hn:n ≤ k0 + 10):Took sb k0 10 (isPara N) w (.returned (.agg (pCs k s))) wx:=
 ⟨_,n,rfl,⟨⟨k,s⟩,rfl,hs⟩,hn,h.str,h.gr⟩
set_option maxRecDepth 100000 in
set_option maxHeartbeats 8000000 in
theorem spoiledPara_c (sb N:Nat) (k0 kind:Int) (text:ByteArray) (w:World) (hs:Str w sb k0) (hk0:k0 ≤ 4000000000000000000) (ht:text.size ≤ N) (hN:2001 ≤ N) (hN2:N ≤ 1000000) :
  Calls Tryz.prog 38 #[.pointer (some ⟨sb,0,none⟩),.agg #[.int .i64 kind,.string text]] w (Took sb k0 10 (isPara (N + 10)) w):=by
 have hG0:PvS w sb [] k0 w:=GS.start hs
 have hsb:=hs.lt
 clear hs
 go_enter Tryz.func38,Tryz.ntmps38
 go_upto_region 1 with (fail)
 have hG:PvS w sb [(w.heap.size + 1,pCs 0 ⟨#[]⟩,78),(w.heap.size,pCs kind text,78)] k0 ((w.alloc (.cells (pCs kind text) 78)).alloc (.cells (pCs 0 ⟨#[]⟩) 78)):=by
  have h:=(hG0.new (pCs kind text) 78).new (pCs 0 ⟨#[]⟩) 78
  rw [show (w.alloc (.cells (pCs kind text) 78)).heap.size = w.heap.size + 1 by simp] at h
  exact h
 generalize hW:(w.alloc (.cells #[.int .i64 kind,.string text] 78)).alloc (.cells #[.int .i64 0,.string ⟨#[]⟩] 78) = w1
 have G1:=Lib.hid (show PvS w sb [(w.heap.size + 1,pCs 0 ⟨#[]⟩,78),(w.heap.size,pCs kind text,78)] k0 w1 by rw [← hW]; exact hG)
 have hab:w.heap.size ≠ w.heap.size + 1:=by omega
 have hba:w.heap.size + 1 ≠ w.heap.size:=by omega
 clear hG0 hG hW
 generalize hB:w.heap.size + 1 = B at *
 clear hB
 go_wp2_with fail
 refine (next_c sb k0 5 w1 G1.out.str (by omega) (by omega) (by omega)).mono ?_
 rintro e w2 ⟨v2,n2,rfl,⟨m2,hm0,hm1,rfl⟩,hn2,hs2,hg2⟩
 have G2:=Lib.hid ((G1.out.turn hg2 hs2).less (Q:=[(w.heap.size,pCs kind text,78),(B,pCs 0 ⟨#[]⟩,78)]) (by simp))
 clear hs2 hg2 G1
 have FIN:=Lib.hid (fun (k:Int) (s:ByteArray) (n:Int) (wx:World) (h:PvS w sb [(w.heap.size,pCs k s,78),(B,pCs 0 ⟨#[]⟩,78)] n wx)=>show (wx.cell? ⟨w.heap.size,0,none⟩ = some (.int .i64 k) ∧ wx.cell? ⟨w.heap.size,1,none⟩ = some (.string s)) ∧ (wx.cell? ⟨B,0,none⟩ = some (.int .i64 0) ∧ wx.cell? ⟨B,1,none⟩ = some (.string ⟨#[]⟩)) ∧ (wx.frozen? ⟨B,0,none⟩ = false ∧ wx.frozen? ⟨B,1,none⟩ = false) ∧ PvS w sb [(B,pCs k s,78)] n ((wx.setCell ⟨B,0,none⟩ (.int .i64 k)).setCell ⟨B,1,none⟩ (.string s)) by
  obtain ⟨x,_⟩:=h.cell (p:=(w.heap.size,pCs k s,78)) (by simp)
  obtain ⟨y,f⟩:=h.cell (p:=(B,pCs 0 ⟨#[]⟩,78)) (by simp)
  refine ⟨⟨x 0,x 1⟩,⟨y 0,y 1⟩,⟨f 0,f 1⟩,?_⟩
  exact ((h.less (Q:=[(B,pCs 0 ⟨#[]⟩,78)]) (by simp)).set (i:=0) (fun h=>h) (.int .i64 k) (by simp)).set (i:=1) (fun h=>h) (.string s) (by simp))
 obtain ⟨x,xf⟩:=G2.out.cell (p:=(w.heap.size,pCs kind text,78)) (by simp)
 have x0:w2.cell? ⟨w.heap.size,0,none⟩ = some (.int .i64 kind):=x 0
 have x1:w2.cell? ⟨w.heap.size,1,none⟩ = some (.string text):=x 1
 have xf0:w2.frozen? ⟨w.heap.size,0,none⟩ = false:=xf 0
 have xf1:w2.frozen? ⟨w.heap.size,1,none⟩ = false:=xf 1
 clear x xf
 have hm:m2 = 0 ∨ m2 = 1 ∨ m2 = 2 ∨ m2 = 3 ∨ m2 = 4:=by omega
 clear hm0 hm1
 rcases hm with rfl | rfl | rfl | rfl | rfl
 ·go_wp2_with fail
  refine (range_c sb n2 0 6 w2 G2.out.str (by omega) (by omega) (by omega) (by omega)).mono ?_
  rintro e w3 ⟨v3,n3,rfl,⟨y3,_,rfl⟩,hn3,hs3,hg3⟩
  have hG3:=G2.out.turn hg3 hs3
  obtain ⟨z,zf⟩:=hG3.cell (p:=(w.heap.size,pCs kind text,78)) (by simp)
  have z0:w3.cell? ⟨w.heap.size,0,none⟩ = some (.int .i64 kind):=z 0
  have zf0:w3.frozen? ⟨w.heap.size,0,none⟩ = false:=zf 0
  have z1:w3.cell? ⟨w.heap.size,1,none⟩ = some (.string text):=z 1
  have G4:=Lib.hid (show PvS w sb [(w.heap.size,pCs y3 text,78),(B,pCs 0 ⟨#[]⟩,78)] n3 (w3.setCell ⟨w.heap.size,0,none⟩ (.int .i64 y3)) from hG3.set (i:=0) (fun h=>h) (.int .i64 y3) (by simpa using hba))
  clear z zf hG3 hs3 hg3 x0 x1 xf0 xf1
  go_upto_region 11 with (fail)
  clear z0 z1 zf0
  generalize w3.setCell ⟨w.heap.size,0,none⟩ (.int .i64 y3) = w4 at *
  obtain ⟨⟨c0,c1⟩,⟨d0,d1⟩,⟨f0,f1⟩,hF⟩:=FIN.out _ _ _ _ G4.out
  have HF:=Lib.hid hF
  clear hF
  go_wp2
  refine ⟨rfl,.agg (pCs y3 text),(by rw [results_cell1 rfl]; go_simp; rfl),?_⟩
  exact spFin HF.out (by omega) (by omega)
 ·go_wp2_with fail
  refine (Tryz.strings_Repeat ⟨#[65]⟩ 31 w2 (by decide) (by decide)).mono ?_
  rintro e w3 ⟨rfl,hb⟩
  have G3:=Lib.hid (G2.out.below hb)
  have hr1:=rep_sz ⟨#[65]⟩ 31 2001 (by decide)
  generalize (⟨(Lib.repeatL (⟨#[65]⟩:ByteArray).data.toList 31).toArray⟩:ByteArray) = r1 at *
  clear hb x0 x1 xf0 xf1
  go_wp2_with fail
  refine (Tryz.strings_Repeat ⟨#[110]⟩ 200 w3 (by decide) (by decide)).mono ?_
  rintro e w4 ⟨rfl,hb⟩
  have G4:=Lib.hid (G3.out.below hb)
  have hr2:=rep_sz ⟨#[110]⟩ 200 2001 (by decide)
  generalize (⟨(Lib.repeatL (⟨#[110]⟩:ByteArray).data.toList 200).toArray⟩:ByteArray) = r2 at *
  clear hb
  go_wp2_with fail
  refine (Tryz.strings_Repeat ⟨#[110]⟩ 201 w4 (by decide) (by decide)).mono ?_
  rintro e w5 ⟨rfl,hb⟩
  have G5:=Lib.hid (G4.out.below hb)
  have hr3:=rep_sz ⟨#[110]⟩ 201 2001 (by decide)
  generalize (⟨(Lib.repeatL (⟨#[110]⟩:ByteArray).data.toList 201).toArray⟩:ByteArray) = r3 at *
  clear hb
  go_wp2_with fail
  refine (Tryz.strings_Repeat ⟨#[122]⟩ 2000 w5 (by decide) (by decide)).mono ?_
  rintro e w6 ⟨rfl,hb⟩
  have G6:=Lib.hid (G5.out.below hb)
  have hr4:=rep_sz ⟨#[122]⟩ 2000 2001 (by decide)
  generalize (⟨(Lib.repeatL (⟨#[122]⟩:ByteArray).data.toList 2000).toArray⟩:ByteArray) = r4 at *
  clear hb
  go_wp2_with fail
  refine (Tryz.strings_Repeat ⟨#[122]⟩ 2001 w6 (by decide) (by decide)).mono ?_
  rintro e w7 ⟨rfl,hb⟩
  have G7:=Lib.hid (G6.out.below hb)
  have hr5:=rep_sz ⟨#[122]⟩ 2001 2001 (by decide)
  generalize (⟨(Lib.repeatL (⟨#[122]⟩:ByteArray).data.toList 2001).toArray⟩:ByteArray) = r5 at *
  clear hb
  go_wp2_with fail
  refine (Tryz.strings_Repeat ⟨#[90]⟩ 40 w7 (by decide) (by decide)).mono ?_
  rintro e w8 ⟨rfl,hb⟩
  have G8:=Lib.hid (G7.out.below hb)
  have hr6:=rep_sz ⟨#[90]⟩ 40 2001 (by decide)
  generalize (⟨(Lib.repeatL (⟨#[90]⟩:ByteArray).data.toList 40).toArray⟩:ByteArray) = r6 at *
  clear hb
  go_wp2_with fail
  refine (Tryz.strings_Repeat ⟨#[90]⟩ 41 w8 (by decide) (by decide)).mono ?_
  rintro e w9 ⟨rfl,hb⟩
  have G9:=Lib.hid (G8.out.below hb)
  have hr7:=rep_sz ⟨#[90]⟩ 41 2001 (by decide)
  generalize (⟨(Lib.repeatL (⟨#[90]⟩:ByteArray).data.toList 41).toArray⟩:ByteArray) = r7 at *
  clear hb G2 G3 G4 G5 G6 G7 G8
  go_wp2_with fail
  refine (oneL w9 [⟨#[]⟩,⟨#[32,97]⟩,⟨#[97,32]⟩,⟨#[97,32,32,98]⟩,⟨#[97,9,98]⟩,⟨#[97,127]⟩,⟨#[97,110,110]⟩,⟨#[65,78,78]⟩,⟨#[40,120,41]⟩,r1,r2,r3,r4,r5,r6,r7] _ _ _ _ rfl rfl (by simp) (by simp) G9.out.str (by omega)).mono ?_
  rintro e wA ⟨vA,nA,rfl,⟨xA,hxA,rfl⟩,hnA,hsA,hgA⟩
  have hxz:xA.size ≤ 2001:=by
   simp only [List.mem_cons,List.not_mem_nil,or_false] at hxA
   rcases hxA with rfl | rfl | rfl | rfl | rfl | rfl | rfl | rfl | rfl | rfl | rfl | rfl | rfl | rfl | rfl | rfl <;> first | assumption | decide
  have hGA:=(G9.out.alloc _).turn hgA hsA
  obtain ⟨z,zf⟩:=hGA.cell (p:=(w.heap.size,pCs kind text,78)) (by simp)
  have z0:wA.cell? ⟨w.heap.size,0,none⟩ = some (.int .i64 kind):=z 0
  have zf1:wA.frozen? ⟨w.heap.size,1,none⟩ = false:=zf 1
  have z1:wA.cell? ⟨w.heap.size,1,none⟩ = some (.string text):=z 1
  have GB:=Lib.hid (show PvS w sb [(w.heap.size,pCs kind xA,78),(B,pCs 0 ⟨#[]⟩,78)] nA (wA.setCell ⟨w.heap.size,1,none⟩ (.string xA)) from hGA.set (i:=1) (fun h=>h) (.string xA) (by simpa using hba))
  clear z zf hGA hsA hgA hxA hr1 hr2 hr3 hr4 hr5 hr6 hr7
  go_upto_region 11 with (fail)
  clear z0 z1 zf1
  generalize wA.setCell ⟨w.heap.size,1,none⟩ (.string xA) = wB at *
  obtain ⟨⟨c0,c1⟩,⟨d0,d1⟩,⟨f0,f1⟩,hF⟩:=FIN.out _ _ _ _ GB.out
  have HF:=Lib.hid hF
  clear hF
  go_wp2
  refine ⟨rfl,.agg (pCs kind xA),(by rw [results_cell1 rfl]; go_simp; rfl),?_⟩
  exact spFin HF.out (by omega) (by omega)
 ·go_upto_region 8 with (fail)
  obtain ⟨ι,ff,hne,hff,hfS⟩:=family (fun W=>W.cell? ⟨w.heap.size,1,none⟩ = some (.string text)) w2 x1
  have hneW:Nonempty World:=⟨w⟩
  have HX1:=Lib.hid x1
  have HFS:=Lib.hid hfS
  have hone:=oneL w2.drew [⟨#[32]⟩,⟨#[10]⟩,⟨#[46]⟩,⟨#[120]⟩] _ 9 4 4 rfl rfl (by decide) (by decide) G2.out.str.drew (by omega)
  have HONE:=Lib.hid hone
  have HCA:=Lib.hid (show ((w2.alloc (.cells #[.string ⟨#[32]⟩,.string ⟨#[10]⟩,.string ⟨#[46]⟩,.string ⟨#[120]⟩] 9)).drew).cell? ⟨w.heap.size,1,none⟩ = some (.string text) from (World.cell?_alloc_lt w2 _ ⟨w.heap.size,1,none⟩ (World.block_lt_of_cell? w2 _ x1)).trans x1)
  clear x0 x1 xf0 xf1 hone hfS
  refine wp_region_segs2 [3,4] [] [] [([0,2],[1],3),([],[],4),([5,6],[],7)] (by kernel_rfl) (by kernel_rfl) (fun _ _ _ dd _ h=>by cases dd <;> exact h) (fun W=>∃ p:ι,W = ff p) (HFS.out _ HX1.out) ?_
  refine wpSegs2_step (by simp only [pick,List.getElem?_cons_succ,List.getElem?_cons_zero]; rfl) (by simp only [pick,List.getElem?_cons_succ,List.getElem?_cons_zero]; rfl) rfl (fun K0 hK0 L0 hL0=>?_)
  repeat (first | go_big_quiet_step (fail) | quiet_step (fail))
  refine wpQuiet_nil (hL0 _ ?_)
  repeat (first | go_big_quiet_step (fail) | quiet_step (fail))
  refine wpQuiet_nil ?_
  go_simp
  refine hK0 (fun W=>∃ p:ι,W = ff p) _ _ (fun _ h=>h) (HFS.out _ HCA.out) ?_
  refine wpSegs2_step (by simp only [pick,List.getElem?_cons_succ,List.getElem?_cons_zero]; rfl) (by simp only [pick,List.getElem?_cons_succ,List.getElem?_cons_zero]; rfl) rfl (fun K1 hK1 L1 hL1=>?_)
  repeat (first | go_big_quiet_step (fail) | quiet_step (fail))
  refine wpQuiet_nil (hL1 _ ?_)
  repeat (first | go_big_quiet_step (fail) | quiet_step (fail))
  refine wpQuiet_nil ?_
  go_simp
  refine HONE.out.mono ?_
  rintro e w3 ⟨v3,n3,rfl,⟨x3,hx3,rfl⟩,hn3,hs3,hg3⟩
  have hxz:x3.size ≤ 2:=oneOf (by decide +kernel) hx3
  have hG3:=(G2.out.drew.alloc (.cells #[.string ⟨#[32]⟩,.string ⟨#[10]⟩,.string ⟨#[46]⟩,.string ⟨#[120]⟩] 9)).turn hg3 hs3
  obtain ⟨z,zf⟩:=hG3.cell (p:=(w.heap.size,pCs kind text,78)) (by simp)
  have z1:w3.cell? ⟨w.heap.size,1,none⟩ = some (.string text):=z 1
  have zf1:w3.frozen? ⟨w.heap.size,1,none⟩ = false:=zf 1
  have esz:(text ++ x3:ByteArray).size = text.size + x3.size:=ByteArray.size_append
  refine hK1 (fun W=>∃ p:ι,W = ff p) _ _ (fun _ h=>h) (HFS.out _ z1) ?_
  have G4:=Lib.hid (show PvS w sb [(w.heap.size,pCs kind (text ++ x3),78),(B,pCs 0 ⟨#[]⟩,78)] n3 (w3.setCell ⟨w.heap.size,1,none⟩ (.string (text ++ x3))) from hG3.set (i:=1) (fun h=>h) (.string (text ++ x3)) (by simpa using hba))
  clear z zf hG3 hs3 hg3 hx3 hff HONE HCA HX1
  refine wpSegs2_last (by simp only [pick,List.getElem?_cons_succ,List.getElem?_cons_zero]; rfl) (by simp only [pick,List.getElem?_cons_succ,List.getElem?_cons_zero]; rfl) rfl (by rfl) (fun K2 hK2 L2 hL2=>?_)
  repeat (first | go_big_quiet_step (fail) | quiet_step (fail))
  refine wpQuiet_nil (hL2 _ ?_)
  repeat (first | go_big_quiet_step (fail) | quiet_step (fail))
  refine wpQuiet_nil ?_
  go_simp
  refine hK2 _ _ (wpSegs2_end ?_)
  go_upto_region 11 with (fail)
  clear z1 zf1
  generalize w3.setCell ⟨w.heap.size,1,none⟩ (.string (text ++ x3)) = w4 at *
  obtain ⟨⟨c0,c1⟩,⟨d0,d1⟩,⟨f0,f1⟩,hF⟩:=FIN.out _ _ _ _ G4.out
  have HF:=Lib.hid hF
  clear hF
  go_wp2
  refine ⟨rfl,.agg (pCs kind (text ++ x3)),(by rw [results_cell1 rfl]; go_simp; rfl),?_⟩
  exact spFin HF.out (by omega) (by omega)
 ·have G4:=Lib.hid (show PvS w sb [(w.heap.size,pCs 2 text,78),(B,pCs 0 ⟨#[]⟩,78)] n2 (w2.setCell ⟨w.heap.size,0,none⟩ (.int .i64 2)) from G2.out.set (i:=0) (fun h=>h) (.int .i64 2) (by simpa using hba))
  go_upto_region 11 with (fail)
  clear x0 x1 xf0 xf1 G2
  generalize w2.setCell ⟨w.heap.size,0,none⟩ (.int .i64 2) = w4 at *
  obtain ⟨⟨c0,c1⟩,⟨d0,d1⟩,⟨f0,f1⟩,hF⟩:=FIN.out _ _ _ _ G4.out
  have HF:=Lib.hid hF
  clear hF
  go_wp2
  refine ⟨rfl,.agg (pCs 2 text),(by rw [results_cell1 rfl]; go_simp; rfl),?_⟩
  exact spFin HF.out (by omega) (by omega)
 ·have G4:=Lib.hid (show PvS w sb [(w.heap.size,pCs 4 text,78),(B,pCs 0 ⟨#[]⟩,78)] n2 (w2.setCell ⟨w.heap.size,0,none⟩ (.int .i64 4)) from G2.out.set (i:=0) (fun h=>h) (.int .i64 4) (by simpa using hba))
  go_upto_region 11 with (fail)
  clear x0 x1 xf0 xf1 G2
  generalize w2.setCell ⟨w.heap.size,0,none⟩ (.int .i64 4) = w4 at *
  obtain ⟨⟨c0,c1⟩,⟨d0,d1⟩,⟨f0,f1⟩,hF⟩:=FIN.out _ _ _ _ G4.out
  have HF:=Lib.hid hF
  clear hF
  go_wp2
  refine ⟨rfl,.agg (pCs 4 text),(by rw [results_cell1 rfl]; go_simp; rfl),?_⟩
  exact spFin HF.out (by omega) (by omega)
end
end Go.Proofs.YtaoobkgepcikiaaGreatDoor
