/- Texts packed: PaB, PaC, PaN. -/
import Derived.Test.YtaoobkgepcikiaaGreatDoorSc32
import Derived.Test.YtaoobkgepcikiaaGreatDoorSc18
import Derived.Test.YtaoobkgepcikiaaGreatDoorSc31
namespace Go.Proofs.YtaoobkgepcikiaaGreatDoor
set_option linter.unusedVariables false
section
open Go.RowKit Go.Sort
theorem lastBrk_yes {b:Blk} {f j:Nat} (h:f < j) (hb:brk b f j = true):lastBrk b f j = some j:=by
 cases j with
 | zero=>omega
 | succ m=>unfold lastBrk; rw [if_pos ⟨h,hb⟩]
theorem lastBrk_no {b:Blk} {f j:Nat} (hb:brk b f j = false):lastBrk b f j = lastBrk b f (j - 1):=by
 cases j with
 | zero=>rfl
 | succ m=>
  show lastBrk b f (m + 1) = lastBrk b f m
  rw [lastBrk,if_neg (fun h=>by rw [hb] at h; cases h.2)]
theorem stop_fit {b:Blk} {f room:Nat} (h:b.lines.length - f ≤ room):stopB b f room = b.lines.length:=if_pos h
theorem stop_at {b:Blk} {f room j:Nat} (h:¬ b.lines.length - f ≤ room) (hl:lastBrk b f (min (roomK b f room) (b.lines.length - 1)) = some j):stopB b f room = j:=by
 unfold stopB; rw [if_neg h,hl]
theorem stop_no {b:Blk} {f room:Nat} (h:¬ b.lines.length - f ≤ room) (hl:lastBrk b f (min (roomK b f room) (b.lines.length - 1)) = none):stopB b f room = max (min (roomK b f room) (b.lines.length - 1)) (f + 1):=by
 unfold stopB; rw [if_neg h,hl]
set_option maxRecDepth 100000 in
set_option maxHeartbeats 2000000 in
theorem stop_c {F:Nat → Prop} (b:Blk) (A1:Option Addr) (c1:Nat) (A2:Option Addr) (n2 c2 f room:Nat) (w:World) (hf:f < b.lines.length) (h1:1 ≤ f + room) (hr:room ≤ 1000) (hl:b.lines.length ≤ 1000000) (hv:Sli knR w F b.kinds (.slice A2 n2 c2)) (hF:∀ q,F q → q < w.heap.size) (hks:b.kind = 3 → b.kinds.length = b.lines.length) :
  Calls Tryz.prog 106 #[.agg (bkA b (.slice A1 b.lines.length c1) (.slice A2 n2 c2)),.int .i64 f,.int .i64 room] w (InP (stopB b f room:Int) w):=by
 have G0:=Lib.hid (show PvG w [(w.heap.size,bkA b (.slice A1 b.lines.length c1) (.slice A2 n2 c2),99)] (w.alloc (.cells (bkA b (.slice A1 b.lines.length c1) (.slice A2 n2 c2)) 99)) from (BO.start w).new _ _)
 have HBR:=Lib.hid (fun (W:World) (h:Below w.heap.size w W) (k:Nat) (h0:f < k) (h1:k ≤ b.lines.length)=>breaks_c b A1 c1 A2 n2 c2 f k W h0 h1 hl (hv.below h hF) (fun q h2=>Nat.lt_of_lt_of_le (hF q h2) h.size) hks)
 have HSF:=Lib.hid (fun h=>stop_fit (b:=b) (f:=f) (room:=room) h)
 have HSA:=Lib.hid (fun j h h2=>stop_at (b:=b) (f:=f) (room:=room) (j:=j) h h2)
 have HSO:=Lib.hid (fun h h2=>stop_no (b:=b) (f:=f) (room:=room) h h2)
 obtain ⟨n,hn⟩:∃ n,b.lines.length = n:=⟨_,rfl⟩
 unfold bkA at *
 rw [hn] at hf hl G0 HBR HSF HSA HSO ⊢
 clear hv hF hks hn
 have hX:∀ (kv:Int) W,PvG w [(w.heap.size,#[.int .i64 kv,.slice A1 n c1,.slice A2 n2 c2,.string b.name],99)] W → W.cell? ⟨w.heap.size,0,none⟩ = some (.int .i64 kv) ∧ W.cell? ⟨w.heap.size,1,none⟩ = some (.slice A1 n c1) ∧ W.cell? ⟨w.heap.size,2,none⟩ = some (.slice A2 n2 c2) ∧ W.cell? ⟨w.heap.size,3,none⟩ = some (.string b.name):=fun kv W h=>by
  obtain ⟨x,_⟩:=h.cell (p:=(w.heap.size,#[.int .i64 kv,.slice A1 n c1,.slice A2 n2 c2,.string b.name],99)) (by simp)
  exact ⟨x 0,x 1,x 2,x 3⟩
 by_cases hfit:n - f ≤ room
 ·have hfi:(n:Int) - (f:Int) ≤ (room:Int):=by omega
  have HR:=Lib.hid (HSF.out hfit)
  clear hX HBR HSA HSO HSF
  go_enter Tryz.func106,Tryz.ntmps106
  go_wp2
  go_ret
  exact ⟨by rw [HR.out]; rfl,G0.out.bel⟩
 have hfi:¬ (n:Int) - (f:Int) ≤ (room:Int):=by omega
 have HST0:=Lib.hid (fun j=>HSA.out j hfit)
 have HSN0:=Lib.hid (HSO.out hfit)
 clear HSF HSA HSO
 by_cases h3:b.kind = 3
 ·have ek:(b.kind:Int) = 3:=by omega
  simp only [ek] at HBR G0 ⊢
  have HX:=Lib.hid (hX 3)
  clear hX
  obtain ⟨M,hM⟩:∃ M,min (roomK b f room) (n - 1) = M:=⟨_,rfl⟩
  have hrk:roomK b f room = f + room - 1:=by unfold roomK; rw [if_pos h3]
  rw [hrk] at hM
  have HM:=Lib.hid (show M ≤ n - 1 ∧ M ≤ f + room - 1 ∧ (M = n - 1 ∨ M = f + room - 1) by omega)
  have HST:=Lib.hid (fun j (h:lastBrk b f M = some j)=>HST0.out j (by rw [hrk,hM]; exact h))
  have HSN:=Lib.hid (fun (h:lastBrk b f M = none)=>show stopB b f room = max M (f + 1) by rw [HSN0.out (by rw [hrk,hM]; exact h),hrk,hM])
  have hmin:min ((f:Int) + (room:Int) - 1) ((n:Int) - 1) = (M:Int):=by omega
  have hmax:max (M:Int) ((f:Int) + 1) = ((max M (f + 1):Nat):Int):=by omega
  clear HST0 HSN0 hM
  go_enter Tryz.func106,Tryz.ntmps106
  go_upto_region 1 with (fail)
  generalize w.alloc (.cells #[.int .i64 3,.slice A1 n c1,.slice A2 n2 c2,.string b.name] 99) = w1 at *
  have G1:=G0
  clear G0
  obtain ⟨x0,x1,x2,x3⟩:=HX.out w1 G1.out
  go_upto_region 8 with (fail)
  go_wp2
  go_loopw [9] (fun i wr=>∃ j:Nat,j ≤ n - 1 ∧ i = .int .i64 j ∧ Hid (lastBrk b f M = lastBrk b f j) ∧ Hid (PvG w [(w.heap.size,#[.int .i64 3,.slice A1 n c1,.slice A2 n2 c2,.string b.name],99)] wr)) (fun i _=>(intOf i).toNat)
  case atStart=>exact ⟨M,HM.out.1,(by congr 1; try omega),rfl,G1.out⟩
  case round=>
   clear G1 x0 x1 x2 x3
   obtain ⟨j,hj,rfl,HJ,HG⟩:=hrel
   by_cases hlt:f < j
   ·obtain ⟨x0,x1,x2,x3⟩:=HX.out wr HG.out
    have HB:=Lib.hid (HBR.out wr HG.out.bel j hlt (by omega))
    go_wp2_with fail
    refine HB.out.mono ?_
    rintro e w2 ⟨rfl,hb2⟩
    have G2:=Lib.hid (HG.out.below hb2)
    clear hb2 HB HG x0 x1 x2 x3
    cases hbr:brk b f j with
    | true=>
     have HR:=Lib.hid (HST.out j (by rw [HJ.out]; exact lastBrk_yes hlt hbr))
     clear HJ
     go_wp2
     go_ret
     exact ⟨by rw [HR.out]; rfl,G2.out.bel⟩
    | false=>
     go_wp2
     go_roundw
     case rel=>exact ⟨j - 1,by omega,(by congr 1; omega),Lib.hid (HJ.out.trans (lastBrk_no hbr)),G2.out⟩
     case measure=>simp [intOf]; omega
   ·have HR:=Lib.hid (HSN.out (by rw [HJ.out]; exact lastBrk_low b f j (by omega)))
    clear HJ
    go_wp2
    go_ret
    exact ⟨by rw [HR.out]; rfl,HG.out.bel⟩
 ·have e3:((b.kind:Int) == 3) = false:=by rw [beq_eq_false_iff_ne]; omega
  have HX:=Lib.hid (hX (b.kind:Int))
  clear hX
  obtain ⟨M,hM⟩:∃ M,min (roomK b f room) (n - 1) = M:=⟨_,rfl⟩
  have hrk:roomK b f room = f + room:=by unfold roomK; rw [if_neg h3]; rfl
  rw [hrk] at hM
  have HM:=Lib.hid (show M ≤ n - 1 ∧ M ≤ f + room ∧ (M = n - 1 ∨ M = f + room) by omega)
  have HST:=Lib.hid (fun j (h:lastBrk b f M = some j)=>HST0.out j (by rw [hrk,hM]; exact h))
  have HSN:=Lib.hid (fun (h:lastBrk b f M = none)=>show stopB b f room = max M (f + 1) by rw [HSN0.out (by rw [hrk,hM]; exact h),hrk,hM])
  have hmin:min ((f:Int) + (room:Int)) ((n:Int) - 1) = (M:Int):=by omega
  have hmax:max (M:Int) ((f:Int) + 1) = ((max M (f + 1):Nat):Int):=by omega
  clear HST0 HSN0 hM
  generalize hkv:(b.kind:Int) = kv at *
  go_enter Tryz.func106,Tryz.ntmps106
  go_upto_region 1 with (fail)
  generalize w.alloc (.cells #[.int .i64 kv,.slice A1 n c1,.slice A2 n2 c2,.string b.name] 99) = w1 at *
  have G1:=G0
  clear G0
  obtain ⟨x0,x1,x2,x3⟩:=HX.out w1 G1.out
  go_upto_region 8 with (fail)
  go_wp2
  go_loopw [9] (fun i wr=>∃ j:Nat,j ≤ n - 1 ∧ i = .int .i64 j ∧ Hid (lastBrk b f M = lastBrk b f j) ∧ Hid (PvG w [(w.heap.size,#[.int .i64 kv,.slice A1 n c1,.slice A2 n2 c2,.string b.name],99)] wr)) (fun i _=>(intOf i).toNat)
  case atStart=>exact ⟨M,HM.out.1,(by congr 1; try omega),rfl,G1.out⟩
  case round=>
   clear G1 x0 x1 x2 x3
   obtain ⟨j,hj,rfl,HJ,HG⟩:=hrel
   by_cases hlt:f < j
   ·obtain ⟨x0,x1,x2,x3⟩:=HX.out wr HG.out
    have HB:=Lib.hid (HBR.out wr HG.out.bel j hlt (by omega))
    go_wp2_with fail
    refine HB.out.mono ?_
    rintro e w2 ⟨rfl,hb2⟩
    have G2:=Lib.hid (HG.out.below hb2)
    clear hb2 HB HG x0 x1 x2 x3
    cases hbr:brk b f j with
    | true=>
     have HR:=Lib.hid (HST.out j (by rw [HJ.out]; exact lastBrk_yes hlt hbr))
     clear HJ
     go_wp2
     go_ret
     exact ⟨by rw [HR.out]; rfl,G2.out.bel⟩
    | false=>
     go_wp2
     go_roundw
     case rel=>exact ⟨j - 1,by omega,(by congr 1; omega),Lib.hid (HJ.out.trans (lastBrk_no hbr)),G2.out⟩
     case measure=>simp [intOf]; omega
   ·have HR:=Lib.hid (HSN.out (by rw [HJ.out]; exact lastBrk_low b f j (by omega)))
    clear HJ
    go_wp2
    go_ret
    exact ⟨by rw [HR.out]; rfl,HG.out.bel⟩
theorem more_c (w:World):Calls Tryz.prog 107 #[] w fun e w'=>e = .returned (.string moreS) ∧ Below w.heap.size w w':=by
 have HR:=Lib.hid (rep_c 20 w (by decide))
 have HM:=Lib.hid (show blanks 20 ++ (⟨#[40,77,79,82,69,41]⟩:ByteArray) = moreS from rfl)
 have hz:=blanks_size 20
 generalize blanks 20 = b20 at *
 have hx:¬ 9223372036854775807 < b20.size + (⟨#[40,77,79,82,69,41]⟩:ByteArray).size:=by
  have:(⟨#[40,77,79,82,69,41]⟩:ByteArray).size = 6:=rfl
  omega
 go_enter Tryz.func107,Tryz.ntmps107
 go_wp2_with fail
 refine HR.out.mono ?_
 rintro e w1 ⟨rfl,hb⟩
 go_wp2
 go_ret
 exact ⟨by rw [← HM.out]; rfl,hb⟩
set_option maxRecDepth 100000 in
set_option maxHeartbeats 2000000 in
theorem goesOn_c (b:Blk) (v1 v2:Value) (w:World) (hn:b.name.size ≤ 100000000):Calls Tryz.prog 108 #[.agg (bkA b v1 v2)] w fun e w'=>e = .returned (.string (contS b.name)) ∧ Below w.heap.size w w':=by
 have HB:=Lib.hid ((Below.refl w.heap.size w).alloc (Nat.le_refl _) (.cells (bkA b v1 v2) 99))
 have HM:=Lib.hid (show blanks 20 ++ b.name ++ (⟨#[32,40,67,79,78,84,39,68,41]⟩:ByteArray) = contS b.name from rfl)
 have HRP:=Lib.hid (fun W=>rep_c 20 W (by decide))
 have hz:=blanks_size 20
 have c3:(w.alloc (.cells (bkA b v1 v2) 99)).cell? ⟨w.heap.size,3,none⟩ = some (.string b.name):=(str_cells (heap_alloc_new w _)).1 3
 have hlt:w.heap.size < (w.alloc (.cells (bkA b v1 v2) 99)).heap.size:=by simp
 unfold bkA at *
 generalize blanks 20 = b20 at *
 have e1:(b20 ++ b.name:ByteArray).size = b20.size + b.name.size:=ByteArray.size_append
 have hx:¬ 9223372036854775807 < b20.size + b.name.size:=by omega
 have hx2:¬ 9223372036854775807 < (b20 ++ b.name).size + (⟨#[32,40,67,79,78,84,39,68,41]⟩:ByteArray).size:=by
  have:(⟨#[32,40,67,79,78,84,39,68,41]⟩:ByteArray).size = 9:=rfl
  omega
 go_enter Tryz.func108,Tryz.ntmps108
 go_upto_region 1 with (fail)
 generalize w.alloc (.cells #[.int .i64 (b.kind:Int),v1,v2,.string b.name] 99) = w1 at *
 have s3:∀ (d:Nat) (os:Array Obj),(Sort.grow (redrawn w1 d) os).cell? ⟨w.heap.size,3,none⟩ = some (.string b.name):=fun d os=>((below_regrown w1 d os).cell hlt).trans c3
 refine wp_region_quiet_below (by kernel_rfl) (by kernel_rfl) ?_
 repeat (first | go_big_quiet_step ((go_at_call 34; exact Calls.regrown_of (HRP.out _))) | quiet_step ((go_at_call 34; exact Calls.regrown_of (HRP.out _))))
 refine wpQuiet_nil ?_
 intro wx hwx
 have hbx:=below_of_regrown hwx
 clear hwx
 go_wp2
 go_ret
 exact ⟨by rw [← HM.out]; rfl,HB.out.trans (hbx.mono HB.out.size)⟩
structure BkL (w:World) (F:Nat → Prop) (l:List BkT) (v:Value):Prop where
 sli:Sli bkR w F l v
 ln:∀ x ∈ l,Sli strR w F x.1.lines x.2.1
 kd:∀ x ∈ l,Sli knR w F x.1.kinds x.2.2
 lt:∀ q,F q → q < w.heap.size
theorem BkL.below {w w':World} {F:Nat → Prop} {l:List BkT} {v:Value} (h:BkL w F l v) (hb:Below w.heap.size w w'):BkL w' F l v:=
 ⟨h.sli.below hb h.lt,fun x hx=>(h.ln x hx).below hb h.lt,fun x hx=>(h.kd x hx).below hb h.lt,fun q hq=>Nat.lt_of_lt_of_le (h.lt q hq) hb.size⟩
theorem BkL.at_ {w:World} {F:Nat → Prop} {l:List BkT} {A:Option Addr} {n c:Nat} (h:BkL w F l (.slice A n c)) (k:Nat) (hk:k < l.length) :
  ∃ b off,A = some ⟨b,off,none⟩ ∧ F b ∧ w.cell? ⟨b,off + k * 4,none⟩ = some (.int .i64 (l[k].1.kind:Int)) ∧ w.cell? ⟨b,off + k * 4 + 1,none⟩ = some l[k].2.1 ∧ w.cell? ⟨b,off + k * 4 + 2,none⟩ = some l[k].2.2 ∧ w.cell? ⟨b,off + k * 4 + 3,none⟩ = some (.string l[k].1.name) ∧
  ∃ A1 c1 A2 n2 c2,l[k].2.1 = .slice A1 l[k].1.lines.length c1 ∧ l[k].2.2 = .slice A2 n2 c2:=by
 obtain ⟨A',c',e,h1,h2,h3⟩:=h.sli
 injection e with e1 e2 e3
 subst e1
 obtain ⟨b,off,cs,rfl,hF,hl,hc⟩:=h3 (by omega)
 have hz:(cs.drop (k * 4)).take 4 = bkCs l[k]:=hl.2 k _ (List.getElem?_eq_getElem hk)
 have hg:∀ j u,j < 4 → (bkCs l[k])[j]? = some u → w.cell? ⟨b,off + (k * 4 + j),none⟩ = some u:=fun j u hj hu=>hc _ _ (by
  rw [← hz,List.getElem?_take,if_pos hj,List.getElem?_drop] at hu
  exact hu)
 obtain ⟨A1,c1,e1,_⟩:=(h.ln _ (List.getElem_mem hk)).form
 obtain ⟨A2,c2,e2,_⟩:=(h.kd _ (List.getElem_mem hk)).form
 exact ⟨b,off,rfl,hF,hg 0 _ (by decide) rfl,hg 1 _ (by decide) rfl,hg 2 _ (by decide) rfl,hg 3 _ (by decide) rfl,A1,c1,A2,_,c2,e1,e2⟩
end
section
open Go.RowKit Go.Sort
def BkOk (b:Blk):Prop:=b.lines.length ≤ 1000000 ∧ (b.kind = 3 → b.kinds.length = b.lines.length) ∧ b.name.size ≤ 1000000
theorem needB_at {l:List BkT} {i:Nat} (hi:i < l.length):needB l[i].1 ((l.drop (i + 1)).map (·.1)) = leastB l[i].1 + (if l[i].1.kind = 0 then (if h:i + 1 < l.length then (if l[i + 1].1.kind = 0 then 0 else 1 + leastB l[i + 1].1) else 0) else 0):=by
 unfold needB
 by_cases h:i + 1 < l.length
 ·rw [dif_pos h,List.drop_eq_getElem_cons h,List.map_cons]
 ·rw [dif_neg h,List.drop_eq_nil_of_le (by omega)]
  rfl
theorem leastB_le {b:Blk}:leastB b ≤ b.lines.length + 2:=by
 unfold leastB
 split
 ·omega
 ·split
  ·split
   ·rename_i k hk
    have:=List.mem_range.1 (List.mem_of_find?_eq_some hk)
    omega
   ·omega
  ·omega
set_option maxRecDepth 100000 in
set_option maxHeartbeats 4000000 in
theorem head_c {F:Nat → Prop} (l:List BkT) (A:Option Addr) (c i:Nat) (w:World) (h:BkL w F l (.slice A l.length c)) (hi:i < l.length) (hl:l.length ≤ 1000000000) (hok:∀ x ∈ l,BkOk x.1) :
  Calls Tryz.prog 105 #[.slice A l.length c,.int .i64 i] w (InP (needB l[i].1 ((l.drop (i + 1)).map (·.1)):Int) w):=by
 have HH:=Lib.hid h
 have hN:=needB_at hi
 obtain ⟨nd,hnd⟩:∃ nd,needB l[i].1 ((l.drop (i + 1)).map (·.1)) = nd:=⟨_,rfl⟩
 rw [hnd] at hN ⊢
 have HN:=Lib.hid hN
 clear hnd hN
 have HOK:=Lib.hid hok
 obtain ⟨b,off,rfl,hF,c0,c1,c2,c3,A1,q1,A2,n2,q2,e1,e2⟩:=h.at_ i hi
 have ho:=hok _ (List.getElem_mem hi)
 have hkd:=h.kd _ (List.getElem_mem hi)
 have hlt:=h.lt b hF
 rw [e1] at c1
 rw [e2] at c2 hkd
 have HL:=Lib.hid (least_c l[i].1 A1 q1 A2 n2 q2 w ho.1 hkd h.lt ho.2.1)
 have hle:=leastB_le (b:=l[i].1)
 have hl1:=ho.1
 clear h hok ho hkd e1 e2
 unfold bkA at HL
 obtain ⟨L,hL⟩:∃ L,l.length = L:=⟨_,rfl⟩
 have HLL:=Lib.hid hL
 by_cases h0:l[i].1.kind = 0
 ·rw [if_pos h0] at HN
  by_cases hn:i + 1 < l.length
  ·rw [dif_pos hn] at HN
   obtain ⟨b',off',e,hF',d0,d1,d2,d3,A3,q3,A4,n4,q4,f1,f2⟩:=HH.out.at_ (i + 1) hn
   obtain ⟨rfl,rfl⟩:b = b' ∧ off = off':=by injection e with e; injection e with e3 e4; exact ⟨e3,e4⟩
   have ho:=HOK.out _ (List.getElem_mem hn)
   have hkd:=HH.out.kd _ (List.getElem_mem hn)
   rw [f1] at d1
   rw [f2] at d2 hkd
   have hle2:=leastB_le (b:=l[i + 1].1)
   have hl2:=ho.1
   have HL2:=Lib.hid (fun (W:World) (hb:Below w.heap.size w W)=>least_c l[i + 1].1 A3 q3 A4 n4 q4 W ho.1 (hkd.below hb HH.out.lt) (fun q hq=>Nat.lt_of_lt_of_le (HH.out.lt q hq) hb.size) ho.2.1)
   have ek:(l[i].1.kind:Int) = 0:=by omega
   clear ho hkd f1 f2 HH HOK e hF hF'
   unfold bkA at HL2
   rw [ek] at c0 HL
   generalize l[i].1 = x at *
   generalize l[i + 1].1 = y at *
   generalize leastB x = lx at *
   by_cases hy:y.kind = 0
   ·rw [if_pos hy] at HN
    have ey:(y.kind:Int) = 0:=by omega
    rw [ey] at d0
    clear HL2
    rw [hL] at hn hi ⊢
    go_enter Tryz.func105,Tryz.ntmps105
    go_wp2_with fail
    refine HL.out.mono ?_
    rintro e w1 ⟨rfl,hb1⟩
    have k0:=(hb1.cell hlt).trans c0
    have m0:=(hb1.cell (p:=⟨b,off + (i + 1) * 4,none⟩) hlt).trans d0
    go_wp2
    go_ret
    exact ⟨by rw [HN.out]; rfl,hb1⟩
   ·rw [if_neg hy] at HN
    have ey:((y.kind:Int) == 0) = false:=by rw [beq_eq_false_iff_ne]; omega
    have ey2:((y.kind:Int) != 0) = true:=by rw [bne,ey]; rfl
    rw [hL] at hn hi ⊢
    go_enter Tryz.func105,Tryz.ntmps105
    go_wp2_with fail
    refine HL.out.mono ?_
    rintro e w1 ⟨rfl,hb1⟩
    have k0:=(hb1.cell hlt).trans c0
    have m0:=(hb1.cell (p:=⟨b,off + (i + 1) * 4,none⟩) hlt).trans d0
    have m1:=(hb1.cell (p:=⟨b,off + (i + 1) * 4 + 1,none⟩) hlt).trans d1
    have m2:=(hb1.cell (p:=⟨b,off + (i + 1) * 4 + 2,none⟩) hlt).trans d2
    have m3:=(hb1.cell (p:=⟨b,off + (i + 1) * 4 + 3,none⟩) hlt).trans d3
    have HY:=Lib.hid (HL2.out w1 hb1)
    clear HL HL2 c0 c1 c2 c3 d0 d1 d2 d3
    go_wp2_with fail
    refine HY.out.mono ?_
    rintro e w2 ⟨rfl,hb2⟩
    generalize leastB y = ly at *
    go_wp2
    go_ret
    exact ⟨by rw [HN.out]; congr 2,hb1.trans (hb2.mono hb1.size)⟩
  ·rw [dif_neg hn] at HN
   have ek:(l[i].1.kind:Int) = 0:=by omega
   rw [ek] at c0 HL
   generalize l[i].1 = x at *
   generalize leastB x = lx at *
   rw [hL] at hn hi ⊢
   clear HH HOK
   go_enter Tryz.func105,Tryz.ntmps105
   go_wp2_with fail
   refine HL.out.mono ?_
   rintro e w1 ⟨rfl,hb1⟩
   have k0:=(hb1.cell hlt).trans c0
   go_wp2
   go_ret
   exact ⟨by rw [HN.out]; rfl,hb1⟩
 ·rw [if_neg h0] at HN
  have ek:((l[i].1.kind:Int) == 0) = false:=by rw [beq_eq_false_iff_ne]; omega
  generalize l[i].1 = x at *
  generalize leastB x = lx at *
  rw [hL] at hi ⊢
  clear HH HOK
  go_enter Tryz.func105,Tryz.ntmps105
  go_wp2_with fail
  refine HL.out.mono ?_
  rintro e w1 ⟨rfl,hb1⟩
  have k0:=(hb1.cell hlt).trans c0
  go_wp2
  go_ret
  exact ⟨by rw [HN.out]; rfl,hb1⟩
end
section
open Go.RowKit Go.Sort
section
variable {w wx wy:World} {l:List BkT} {v:Value} {P Q:List Pc}
end
theorem BkN.parts {w wx:World} {l:List BkT} {v:Value} {P:List Pc} (h:BkN w l v P wx):Sli bkR wx (fun q=>w.heap.size ≤ q ∧ q < wx.heap.size) l v ∧ (∀ y ∈ l,Sli strR wx (fun q=>w.heap.size ≤ q ∧ q < wx.heap.size) y.1.lines y.2.1) ∧ ∀ y ∈ l,Sli knR wx (fun q=>w.heap.size ≤ q ∧ q < wx.heap.size) y.1.kinds y.2.2:=by
 refine ⟨h.bo.own.sli (fun b h1 h2=>⟨h1,h2⟩) (fun g hg=>h.bo.own.block g hg),fun y hy=>?_,fun y hy=>?_⟩
 ·obtain ⟨j,hj⟩:=List.mem_iff_getElem?.1 hy
  have hr:=Own.strs (h.row false j y hj).1
  exact hr.sli (fun b h1 h2=>⟨h1,h2⟩) (fun g hg=>hr.block g hg)
 ·obtain ⟨j,hj⟩:=List.mem_iff_getElem?.1 hy
  have hr:Own valR wx w.heap.size w.heap.size 3 (y.1.kinds.map fun k:Nat=>Value.int .i64 (k:Int)) y.2.2:=(h.row true j y hj).1
  have hq:Own knR wx w.heap.size w.heap.size 3 y.1.kinds y.2.2:=Own.recode hr (by simp) fun i x x' hx hx'=>by rw [List.getElem?_map,hx'] at hx; cases hx; rfl
  exact hq.sli (fun b h1 h2=>⟨h1,h2⟩) (fun g hg=>hq.block g hg)
end
end Go.Proofs.YtaoobkgepcikiaaGreatDoor
