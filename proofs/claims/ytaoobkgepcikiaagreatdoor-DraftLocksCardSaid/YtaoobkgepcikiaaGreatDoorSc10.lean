/- Texts packed: HdA. -/
import Derived.Test.YtaoobkgepcikiaaGreatDoorSc08
import Derived.Test.YtaoobkgepcikiaaGreatDoorSc02
import Derived.Test.YtaoobkgepcikiaaGreatDoorSc01
import Derived.Deep.QuietTactic
import Derived.BigQuiet
import Derived.Deep.DeepCutAuto
import Derived.RegionTactic
namespace Go.Proofs.YtaoobkgepcikiaaGreatDoor
set_option linter.unusedVariables false
open Go.RowKit Go.Sort
def WdP (n:Nat) (f:Nat → ByteArray) (w:World) (e:Ending) (w':World):Prop:=∃ B,e = .returned (.slice (some ⟨B,0,none⟩) n n) ∧ w.heap.size ≤ B ∧ B < w'.heap.size ∧ Below w.heap.size w w' ∧ ∀ q,q < n → w'.cell? ⟨B,q,none⟩ = some (.string (f q))
theorem WdP.mk {l:List ByteArray} {w:World} {T:TypeId} {n:Nat} {cs:Array Value} (hcs:cs = (l.map Value.string).toArray) (hn:l.length = n):WdP n (fun q=>l.getD q ⟨#[]⟩) w (.returned (.slice (some ⟨w.heap.size,0,none⟩) n n)) (w.alloc (.cells cs T)):=
 ⟨w.heap.size,rfl,Nat.le_refl _,by simp,(Below.refl _ w).alloc (Nat.le_refl _) _,fun q hq=>by
  show _ = some (Value.string (l.getD q ⟨#[]⟩))
  rw [(str_cells (heap_alloc_new w _)).1,hcs,List.getElem?_toArray,List.getElem?_map,List.getD_eq_getElem?_getD,List.getElem?_eq_getElem (by omega)]
  rfl⟩
theorem placeWords_c (w:World):Calls Tryz.prog 153 #[] w (WdP 4 placeS w):=by
 go_enter Tryz.func153,Tryz.ntmps153
 go_wp2
 go_ret
 exact WdP.mk (l:=placeL) rfl rfl
theorem places_c (w:World):Calls Tryz.prog 178 #[] w (WdP 4 placeS w):=by
 go_enter Tryz.func178,Tryz.ntmps178
 go_wp2
 go_ret
 exact WdP.mk (l:=placeL) rfl rfl
theorem timeWords_c (w:World):Calls Tryz.prog 154 #[] w (WdP 6 timeS w):=by
 go_enter Tryz.func154,Tryz.ntmps154
 go_wp2
 go_ret
 exact WdP.mk (l:=timeL) rfl rfl
theorem times_c (w:World):Calls Tryz.prog 179 #[] w (WdP 6 timeS w):=by
 go_enter Tryz.func179,Tryz.ntmps179
 go_wp2
 go_ret
 exact WdP.mk (l:=timeL) rfl rfl
def HsP (x:Scene) (w:World) (e:Ending) (w':World):Prop:=e = .returned (.string (headS x)) ∧ Below w.heap.size w w'
theorem HsP.mk {x:Scene} {q:ByteArray} {w w':World} (h:headS x = q) (hb:Below w.heap.size w w'):HsP x w (.returned (.string q)) w':=⟨by rw [h],hb⟩
set_option maxRecDepth 100000 in
set_option maxHeartbeats 4000000 in
theorem heading_c (x:Scene) (A:Option Addr) (n c:Nat) (w:World) (hn:x.no.size ≤ 1000000) (hs:x.set.size ≤ 1000000) (hp:0 ≤ x.place ∧ x.place < 4) (ht:0 ≤ x.time ∧ x.time < 6) :
  Calls Tryz.prog 96 #[.agg #[.string x.no,.int .i64 x.place,.string x.set,.int .i64 x.time,.slice A n c]] w (HsP x w):=by
 obtain ⟨no,place,set,time,paras⟩:=x
 dsimp only at hn hs hp ht ⊢
 obtain ⟨pl,rfl⟩:=Int.eq_ofNat_of_zero_le hp.1
 obtain ⟨ti,rfl⟩:=Int.eq_ofNat_of_zero_le ht.1
 have hpl:pl < 4:=by omega
 have hti:ti < 6:=by omega
 have hpi:(pl:Int) < 4:=by omega
 have htj:(ti:Int) < 6:=by omega
 have HHS:=Lib.hid (show headS ⟨no,(pl:Int),set,(ti:Int),paras⟩ = if no = ⟨#[]⟩ then placeS pl ++ ⟨#[32]⟩ ++ set ++ ⟨#[32,45,32]⟩ ++ timeS ti else no ++ ⟨#[32]⟩ ++ (placeS pl ++ ⟨#[32]⟩ ++ set ++ ⟨#[32,45,32]⟩ ++ timeS ti) from rfl)
 have hz1:=placeS_sz pl
 have hz2:=timeS_sz ti
 have e1:(placeS pl ++ ⟨#[32]⟩:ByteArray).size = (placeS pl).size + 1:=by rw [ByteArray.size_append]; rfl
 have e2:(placeS pl ++ ⟨#[32]⟩ ++ set:ByteArray).size = (placeS pl).size + 1 + set.size:=by rw [ByteArray.size_append,e1]
 have e3:(placeS pl ++ ⟨#[32]⟩ ++ set ++ ⟨#[32,45,32]⟩:ByteArray).size = (placeS pl).size + 1 + set.size + 3:=by rw [ByteArray.size_append,e2]; rfl
 have e4:(placeS pl ++ ⟨#[32]⟩ ++ set ++ ⟨#[32,45,32]⟩ ++ timeS ti:ByteArray).size = (placeS pl).size + 1 + set.size + 3 + (timeS ti).size:=by rw [ByteArray.size_append,e3]
 have e5:(no ++ ⟨#[32]⟩:ByteArray).size = no.size + 1:=by rw [ByteArray.size_append]; rfl
 generalize hW:w.alloc (.cells #[.string no,.int .i64 (pl:Int),.string set,.int .i64 (ti:Int),.slice A n c] 46) = wb
 have HB:=Lib.hid (show Below w.heap.size w wb by rw [← hW]; exact (Below.refl _ w).alloc (Nat.le_refl _) _)
 have hX:w.heap.size < wb.heap.size:=by rw [← hW]; simp
 have HK:=Lib.hid (fun (W:World) (hb:Below wb.heap.size wb W)=>show W.cell? ⟨w.heap.size,0,none⟩ = some (.string no) ∧ W.cell? ⟨w.heap.size,1,none⟩ = some (.int .i64 (pl:Int)) ∧ W.cell? ⟨w.heap.size,2,none⟩ = some (.string set) ∧ W.cell? ⟨w.heap.size,3,none⟩ = some (.int .i64 (ti:Int)) by
  obtain ⟨y,_⟩:=str_cells ((hb.block w.heap.size hX).trans (by rw [← hW]; exact heap_alloc_new w _))
  exact ⟨y 0,y 1,y 2,y 3⟩)
 go_enter Tryz.func96,Tryz.ntmps96
 go_upto_region 1 with (fail)
 clear hW
 go_cut [3] (fun s3 wx=>s3 = .string (placeS pl ++ ⟨#[32]⟩ ++ set ++ ⟨#[32,45,32]⟩ ++ timeS ti) ∧ Hid (Below wb.heap.size wb wx))
 case first=>
  have hneW:Nonempty World:=⟨w⟩
  obtain ⟨ι,ff,hne,hp0,hff,hfS⟩:=growFam wb.drew
  have HFF:=Lib.hid hff
  have s1:=fun p=>(HK.out (ff p) ((Below.refl _ wb).drew.trans (HFF.out p))).2.1
  have s2:=fun p=>(HK.out (ff p) ((Below.refl _ wb).drew.trans (HFF.out p))).2.2.1
  have s3:=fun p=>(HK.out (ff p) ((Below.refl _ wb).drew.trans (HFF.out p))).2.2.2
  have HFS:=Lib.hid hfS
  clear hff hfS
  refine wp_region_segs2 [0,10] [13] [14,15,16] [([1,6,11],[2,7,12],0),([3],[4,5,8,9],10)] (by kernel_rfl) (by kernel_rfl) (fun _ _ _ dd _ h=>by cases dd <;> exact h) (fun W=>∃ p:ι,W = ff p) hp0 ?_
  refine wpSegs2_step (by simp only [pick,List.getElem?_cons_succ,List.getElem?_cons_zero]; rfl) (by simp only [pick,List.getElem?_cons_succ,List.getElem?_cons_zero]; rfl) rfl (fun K0 hK0 L0 hL0=>?_)
  repeat (first | go_big_quiet_step (fail) | quiet_step (fail))
  refine wpQuiet_nil (hL0 _ ?_)
  repeat (first | go_big_quiet_step (fail) | quiet_step (fail))
  refine wpQuiet_nil ?_
  go_simp
  refine (placeWords_c wb.drew).mono ?_
  rintro e w7 ⟨BP,rfl,hb1,hb2,hb3,hb4⟩
  have hP:=hb4 pl hpl
  obtain ⟨ι2,ff2,hne2,hp2,hff2,hfS2⟩:=growFam w7
  have HFF2:=Lib.hid hff2
  have HFS2:=Lib.hid hfS2
  have t1:=fun p=>((HFF2.out p).cell (p:=⟨BP,pl,none⟩) hb2).trans hP
  clear hb4 s1 s2 s3 hff2 hfS2
  refine hK0 (fun W=>∃ p:ι2,W = ff2 p) _ _ (fun W hW=>by obtain ⟨p,rfl⟩:=hW; exact HFS.out _ (hb3.trans ((HFF2.out p).mono hb3.size))) hp2 ?_
  refine wpSegs2_step (by simp only [pick,List.getElem?_cons_succ,List.getElem?_cons_zero]; rfl) (by simp only [pick,List.getElem?_cons_succ,List.getElem?_cons_zero]; rfl) rfl (fun K1 hK1 L1 hL1=>?_)
  repeat (first | go_big_quiet_step (fail) | quiet_step (fail))
  refine wpQuiet_nil (hL1 _ ?_)
  repeat (first | go_big_quiet_step (fail) | quiet_step (fail))
  refine wpQuiet_nil ?_
  go_simp
  refine (timeWords_c w7).mono ?_
  rintro e w8 ⟨BT,rfl,hb5,hb6,hb7,hb8⟩
  have hT:=hb8 ti hti
  obtain ⟨ι3,ff3,hne3,hp3,hff3,hfS3⟩:=growFam w8
  have HFF3:=Lib.hid hff3
  have u1:=fun p=>((HFF3.out p).cell (p:=⟨BT,ti,none⟩) hb6).trans hT
  clear hb8 t1 hff3 hfS3
  refine hK1 (fun W=>∃ p:ι3,W = ff3 p) _ _ (fun W hW=>by obtain ⟨p,rfl⟩:=hW; exact HFS2.out _ (hb7.trans ((HFF3.out p).mono hb7.size))) hp3 ?_
  refine wpSegs2_fin (by simp only [pick,List.getElem?_cons_succ,List.getElem?_cons_zero]; rfl) (by simp only [pick,List.getElem?_cons_succ,List.getElem?_cons_zero]; rfl) (fun L2 hL2=>?_)
  repeat (first | go_big_quiet_step (fail) | quiet_step (fail))
  refine wpQuiet_nil (hL2 _ ?_)
  repeat (first | go_big_quiet_step (fail) | quiet_step (fail))
  refine wpQuiet_nil ?_
  go_wp2
  go_meet
  exact ⟨rfl,(Below.refl _ wb).drew.trans (hb3.trans (hb7.mono hb3.size))⟩
 case rest=>
  obtain ⟨rfl,HB2⟩:=hcut
  obtain ⟨d0,d1,d2,d3⟩:=HK.out _ HB2.out
  have HB3:=Lib.hid (HB.out.trans (HB2.out.mono HB.out.size))
  clear d1 d2 d3 HK HB2
  cases he:no.toList.isEmpty with
  | true=>
   have HR:=Lib.hid (HHS.out.trans (if_pos ((empty_iff no).1 he)))
   go_wp2
   go_ret
   exact HsP.mk HR.out HB3.out
  | false=>
   have HR:=Lib.hid (HHS.out.trans (if_neg (fun h=>by rw [(empty_iff no).2 h] at he; cases he)))
   generalize placeS pl ++ ⟨#[32]⟩ ++ set ++ ⟨#[32,45,32]⟩ ++ timeS ti = q at *
   go_wp2
   go_ret
   exact HsP.mk HR.out HB3.out
set_option maxRecDepth 100000 in
set_option maxHeartbeats 4000000 in
theorem HeadingOf_c (x:Scene) (A:Option Addr) (n c:Nat) (w:World) (hn:x.no.size ≤ 1000000) (hs:x.set.size ≤ 1000000) (hp:0 ≤ x.place ∧ x.place < 4) (ht:0 ≤ x.time ∧ x.time < 6) :
  Calls Tryz.prog 120 #[.agg #[.string x.no,.int .i64 x.place,.string x.set,.int .i64 x.time,.slice A n c]] w (HsP x w):=by
 obtain ⟨no,place,set,time,paras⟩:=x
 dsimp only at hn hs hp ht ⊢
 obtain ⟨pl,rfl⟩:=Int.eq_ofNat_of_zero_le hp.1
 obtain ⟨ti,rfl⟩:=Int.eq_ofNat_of_zero_le ht.1
 have hpl:pl < 4:=by omega
 have hti:ti < 6:=by omega
 have hpi:(pl:Int) < 4:=by omega
 have htj:(ti:Int) < 6:=by omega
 have HHS:=Lib.hid (show headS ⟨no,(pl:Int),set,(ti:Int),paras⟩ = if no = ⟨#[]⟩ then placeS pl ++ ⟨#[32]⟩ ++ set ++ ⟨#[32,45,32]⟩ ++ timeS ti else no ++ ⟨#[32]⟩ ++ (placeS pl ++ ⟨#[32]⟩ ++ set ++ ⟨#[32,45,32]⟩ ++ timeS ti) from rfl)
 have hz1:=placeS_sz pl
 have hz2:=timeS_sz ti
 have e1:(placeS pl ++ ⟨#[32]⟩:ByteArray).size = (placeS pl).size + 1:=by rw [ByteArray.size_append]; rfl
 have e2:(placeS pl ++ ⟨#[32]⟩ ++ set:ByteArray).size = (placeS pl).size + 1 + set.size:=by rw [ByteArray.size_append,e1]
 have e3:(placeS pl ++ ⟨#[32]⟩ ++ set ++ ⟨#[32,45,32]⟩:ByteArray).size = (placeS pl).size + 1 + set.size + 3:=by rw [ByteArray.size_append,e2]; rfl
 have e4:(placeS pl ++ ⟨#[32]⟩ ++ set ++ ⟨#[32,45,32]⟩ ++ timeS ti:ByteArray).size = (placeS pl).size + 1 + set.size + 3 + (timeS ti).size:=by rw [ByteArray.size_append,e3]
 have e5:(no ++ ⟨#[32]⟩:ByteArray).size = no.size + 1:=by rw [ByteArray.size_append]; rfl
 generalize hW:w.alloc (.cells #[.string no,.int .i64 (pl:Int),.string set,.int .i64 (ti:Int),.slice A n c] 46) = wb
 have HB:=Lib.hid (show Below w.heap.size w wb by rw [← hW]; exact (Below.refl _ w).alloc (Nat.le_refl _) _)
 have hX:w.heap.size < wb.heap.size:=by rw [← hW]; simp
 have HK:=Lib.hid (fun (W:World) (hb:Below wb.heap.size wb W)=>show W.cell? ⟨w.heap.size,0,none⟩ = some (.string no) ∧ W.cell? ⟨w.heap.size,1,none⟩ = some (.int .i64 (pl:Int)) ∧ W.cell? ⟨w.heap.size,2,none⟩ = some (.string set) ∧ W.cell? ⟨w.heap.size,3,none⟩ = some (.int .i64 (ti:Int)) by
  obtain ⟨y,_⟩:=str_cells ((hb.block w.heap.size hX).trans (by rw [← hW]; exact heap_alloc_new w _))
  exact ⟨y 0,y 1,y 2,y 3⟩)
 go_enter Tryz.func120,Tryz.ntmps120
 go_upto_region 1 with (fail)
 clear hW
 go_cut [3] (fun s3 wx=>s3 = .string (placeS pl ++ ⟨#[32]⟩ ++ set ++ ⟨#[32,45,32]⟩ ++ timeS ti) ∧ Hid (Below wb.heap.size wb wx))
 case first=>
  have hneW:Nonempty World:=⟨w⟩
  obtain ⟨ι,ff,hne,hp0,hff,hfS⟩:=growFam wb.drew
  have HFF:=Lib.hid hff
  have s1:=fun p=>(HK.out (ff p) ((Below.refl _ wb).drew.trans (HFF.out p))).2.1
  have s2:=fun p=>(HK.out (ff p) ((Below.refl _ wb).drew.trans (HFF.out p))).2.2.1
  have s3:=fun p=>(HK.out (ff p) ((Below.refl _ wb).drew.trans (HFF.out p))).2.2.2
  have HFS:=Lib.hid hfS
  clear hff hfS
  refine wp_region_segs2 [0,10] [13] [14,15,16] [([1,6,11],[2,7,12],0),([3],[4,5,8,9],10)] (by kernel_rfl) (by kernel_rfl) (fun _ _ _ dd _ h=>by cases dd <;> exact h) (fun W=>∃ p:ι,W = ff p) hp0 ?_
  refine wpSegs2_step (by simp only [pick,List.getElem?_cons_succ,List.getElem?_cons_zero]; rfl) (by simp only [pick,List.getElem?_cons_succ,List.getElem?_cons_zero]; rfl) rfl (fun K0 hK0 L0 hL0=>?_)
  repeat (first | go_big_quiet_step (fail) | quiet_step (fail))
  refine wpQuiet_nil (hL0 _ ?_)
  repeat (first | go_big_quiet_step (fail) | quiet_step (fail))
  refine wpQuiet_nil ?_
  go_simp
  refine (places_c wb.drew).mono ?_
  rintro e w7 ⟨BP,rfl,hb1,hb2,hb3,hb4⟩
  have hP:=hb4 pl hpl
  obtain ⟨ι2,ff2,hne2,hp2,hff2,hfS2⟩:=growFam w7
  have HFF2:=Lib.hid hff2
  have HFS2:=Lib.hid hfS2
  have t1:=fun p=>((HFF2.out p).cell (p:=⟨BP,pl,none⟩) hb2).trans hP
  clear hb4 s1 s2 s3 hff2 hfS2
  refine hK0 (fun W=>∃ p:ι2,W = ff2 p) _ _ (fun W hW=>by obtain ⟨p,rfl⟩:=hW; exact HFS.out _ (hb3.trans ((HFF2.out p).mono hb3.size))) hp2 ?_
  refine wpSegs2_step (by simp only [pick,List.getElem?_cons_succ,List.getElem?_cons_zero]; rfl) (by simp only [pick,List.getElem?_cons_succ,List.getElem?_cons_zero]; rfl) rfl (fun K1 hK1 L1 hL1=>?_)
  repeat (first | go_big_quiet_step (fail) | quiet_step (fail))
  refine wpQuiet_nil (hL1 _ ?_)
  repeat (first | go_big_quiet_step (fail) | quiet_step (fail))
  refine wpQuiet_nil ?_
  go_simp
  refine (times_c w7).mono ?_
  rintro e w8 ⟨BT,rfl,hb5,hb6,hb7,hb8⟩
  have hT:=hb8 ti hti
  obtain ⟨ι3,ff3,hne3,hp3,hff3,hfS3⟩:=growFam w8
  have HFF3:=Lib.hid hff3
  have u1:=fun p=>((HFF3.out p).cell (p:=⟨BT,ti,none⟩) hb6).trans hT
  clear hb8 t1 hff3 hfS3
  refine hK1 (fun W=>∃ p:ι3,W = ff3 p) _ _ (fun W hW=>by obtain ⟨p,rfl⟩:=hW; exact HFS2.out _ (hb7.trans ((HFF3.out p).mono hb7.size))) hp3 ?_
  refine wpSegs2_fin (by simp only [pick,List.getElem?_cons_succ,List.getElem?_cons_zero]; rfl) (by simp only [pick,List.getElem?_cons_succ,List.getElem?_cons_zero]; rfl) (fun L2 hL2=>?_)
  repeat (first | go_big_quiet_step (fail) | quiet_step (fail))
  refine wpQuiet_nil (hL2 _ ?_)
  repeat (first | go_big_quiet_step (fail) | quiet_step (fail))
  refine wpQuiet_nil ?_
  go_wp2
  go_meet
  exact ⟨rfl,(Below.refl _ wb).drew.trans (hb3.trans (hb7.mono hb3.size))⟩
 case rest=>
  obtain ⟨rfl,HB2⟩:=hcut
  obtain ⟨d0,d1,d2,d3⟩:=HK.out _ HB2.out
  have HB3:=Lib.hid (HB.out.trans (HB2.out.mono HB.out.size))
  clear d1 d2 d3 HK HB2
  cases he:no.toList.isEmpty with
  | true=>
   have HR:=Lib.hid (HHS.out.trans (if_pos ((empty_iff no).1 he)))
   go_wp2
   go_ret
   exact HsP.mk HR.out HB3.out
  | false=>
   have HR:=Lib.hid (HHS.out.trans (if_neg (fun h=>by rw [(empty_iff no).2 h] at he; cases he)))
   generalize placeS pl ++ ⟨#[32]⟩ ++ set ++ ⟨#[32,45,32]⟩ ++ timeS ti = q at *
   go_wp2
   go_ret
   exact HsP.mk HR.out HB3.out
end Go.Proofs.YtaoobkgepcikiaaGreatDoor
