/- Texts packed: SheB. -/
import Derived.Test.YtaoobkgepcikiaaGreatDoorSc37
namespace Go.Proofs.YtaoobkgepcikiaaGreatDoor
set_option linter.unusedVariables false
open Go.RowKit Go.Sort
abbrev boR:Rep Nat:=Rep.flat 1 (fun k:Nat=>[.bool (decide (k = 2))]) (fun _=>rfl)
def rbA (b:Blk) (v1 v2:Value):Array Value:=#[.int .i64 (rkN b.kind),v1,v2]
theorem boAt {w:World} {F:Nat → Prop} {l:List Nat} {A:Option Addr} {n c:Nat} (h:Sli boR w F l (.slice A n c)) (k:Nat) (hk:k < l.length):∃ b off,A = some ⟨b,off,none⟩ ∧ F b ∧ w.cell? ⟨b,off + k,none⟩ = some (.bool (decide (l[k] = 2))):=by
 obtain ⟨A',c',e,h1,h2,h3⟩:=h
 injection e with e1 e2 e3
 subst e1
 obtain ⟨b,off,cs,rfl,hF,hl,hc⟩:=h3 (by omega)
 refine ⟨b,off,rfl,hF,hc k _ ?_⟩
 have hz:(cs.drop (k * 1)).take 1 = [.bool (decide (l[k] = 2))]:=hl.2 k _ (List.getElem?_eq_getElem hk)
 rw [Nat.mul_one] at hz
 have:=congrArg (fun q:List Value=>q[0]?) hz
 simpa using this
theorem rkN_1 (k:Nat) (h:k = 1):rkN k = 1:=by subst h; rfl
theorem rkN_3 (k:Nat) (h:k = 3):rkN k = 2:=by subst h; rfl
theorem rkN_0 (k:Nat) (h:k = 0):rkN k = 0:=by subst h; rfl
theorem rkN_no (k:Nat) (h1:¬ k = 1) (h3:¬ k = 3):(rkN k == 1) = false ∧ (rkN k == 2) = false:=by
 unfold rkN
 constructor
 ·rw [beq_eq_false_iff_ne]; split <;> (try split) <;> omega
 ·rw [beq_eq_false_iff_ne]; split <;> (try split) <;> omega
theorem rkN_n0 (k:Nat) (h:¬ k = 0):(rkN k == 0) = false:=by
 unfold rkN
 rw [beq_eq_false_iff_ne]; split <;> (try split) <;> omega
theorem rgap_c (b:Blk) (v1 v2:Value) (w:World):Calls Tryz.prog 176 #[.agg (rbA b v1 v2)] w (InP (b.gap:Int) w):=by
 have HB:=Lib.hid (fun kv:Int=>(Below.refl w.heap.size w).alloc (Nat.le_refl _) (.cells #[.int .i64 kv,v1,v2] 162))
 unfold rbA
 by_cases h0:b.kind = 0
 ·have HG:=Lib.hid (show b.gap = 2 from if_pos h0)
  rw [rkN_0 _ h0]
  go_enter Tryz.func176,Tryz.ntmps176
  go_wp2
  go_ret
  exact ⟨by rw [HG.out]; rfl,HB.out _⟩
 ·have HG:=Lib.hid (show b.gap = 1 from if_neg h0)
  have e0:=rkN_n0 _ h0
  generalize rkN b.kind = rk at *
  go_enter Tryz.func176,Tryz.ntmps176
  go_wp2
  go_ret
  exact ⟨by rw [HG.out]; rfl,HB.out _⟩
set_option maxRecDepth 100000 in
set_option maxHeartbeats 4000000 in
theorem mayBreak_c {F:Nat → Prop} (b:Blk) (A1:Option Addr) (c1:Nat) (A2:Option Addr) (n2 c2 f k:Nat) (w:World) (hf:f ≤ k) (hk:k < b.lines.length) (hl:b.lines.length ≤ 1000000) (hv:Sli boR w F b.kinds (.slice A2 n2 c2)) (hF:∀ q,F q → q < w.heap.size) (hks:b.kind = 3 → b.kinds.length = b.lines.length) :
  Calls Tryz.prog 174 #[.agg (rbA b (.slice A1 b.lines.length c1) (.slice A2 n2 c2)),.int .i64 f,.int .i64 k] w (BoP (brk b f (k + 1)) w):=by
 have HBG:=Lib.hid (fun kv:Int=>(Below.refl w.heap.size w).alloc (Nat.le_refl _) (.cells #[.int .i64 kv,.slice A1 b.lines.length c1,.slice A2 n2 c2] 162))
 unfold rbA
 generalize hn:b.lines.length = n at *
 have r1:IntKind.i64.wrap ((n:Int) - (k:Int)) = (n:Int) - (k:Int):=IntWalk.i64_in _ (by omega)
 have r2:IntKind.i64.wrap ((n:Int) - (k:Int) - 1) = (n:Int) - (k:Int) - 1:=IntWalk.i64_in _ (by omega)
 have r3:IntKind.i64.wrap ((k:Int) - (f:Int)) = (k:Int) - (f:Int):=IntWalk.i64_in _ (by omega)
 have r4:IntKind.i64.wrap ((k:Int) - (f:Int) + 1) = (k:Int) - (f:Int) + 1:=IntWalk.i64_in _ (by omega)
 have r5:IntKind.i64.wrap ((k:Int) - (f:Int) + 1 - 1) = (k:Int) - (f:Int):=by rw [show (k:Int) - (f:Int) + 1 - 1 = (k:Int) - (f:Int) by omega]; exact r3
 by_cases h1:b.kind = 1
 ·have hq:=brk_act (f:=f) (k:=k + 1) h1
  rw [hn] at hq
  have HB:=Lib.hid (HBG.out 1)
  rw [rkN_1 _ h1]
  clear hv hF hks HBG
  by_cases ha:f + 2 ≤ k + 1
  ·have ha2:(2:Int) ≤ (k:Int) - (f:Int) + 1:=by omega
   by_cases hb:k + 1 + 2 ≤ n
   ·have HR:=Lib.hid (show brk b f (k + 1) = true from hq.2 ⟨ha,hb⟩)
    have hb2:(2:Int) ≤ (n:Int) - (k:Int) - 1:=by omega
    clear hq
    go_enter Tryz.func174,Tryz.ntmps174
    go_wp2
    go_ret
    exact ⟨by rw [HR.out]; rfl,HB.out⟩
   ·have HR:=Lib.hid (show brk b f (k + 1) = false from by rw [← Bool.not_eq_true]; exact fun h=>hb (hq.1 h).2)
    have hb2:¬ (2:Int) ≤ (n:Int) - (k:Int) - 1:=by omega
    clear hq
    go_enter Tryz.func174,Tryz.ntmps174
    go_wp2
    go_ret
    exact ⟨by rw [HR.out]; rfl,HB.out⟩
  ·have HR:=Lib.hid (show brk b f (k + 1) = false from by rw [← Bool.not_eq_true]; exact fun h=>ha (hq.1 h).1)
   have ha2:¬ (2:Int) ≤ (k:Int) - (f:Int) + 1:=by omega
   clear hq
   go_enter Tryz.func174,Tryz.ntmps174
   go_wp2
   go_ret
   exact ⟨by rw [HR.out]; rfl,HB.out⟩
 by_cases h3:b.kind = 3
 ·have hq:=brk_grp (f:=f) (k:=k + 1) h3
  rw [hn] at hq
  have hkk:k < b.kinds.length:=by rw [hks h3]; omega
  have hnn:n2 = b.kinds.length:=by
   obtain ⟨_,_,e,_⟩:=hv
   injection e with _ e _
  obtain ⟨bb,off,rfl,hFb,hc⟩:=boAt hv k hkk
  have hlt:=hF _ hFb
  rw [Nat.add_sub_cancel,List.getD_eq_getElem?_getD,List.getElem?_eq_getElem hkk] at hq
  change brk b f (k + 1) = true ↔ b.kinds[k] = 2 ∧ _ at hq
  have hn2:k < n2:=by omega
  have HB:=Lib.hid (HBG.out 2)
  rw [rkN_3 _ h3]
  clear hv HBG
  generalize b.kinds[k] = kd at *
  clear hnn hF hks hkk
  by_cases f0:f = 0
  ·subst f0
   rw [if_pos rfl] at hq
   by_cases hd:kd = 2
   ·rw [decide_eq_true hd] at hc
    by_cases ha:3 ≤ k + 1
    ·have ha2:(2:Int) ≤ (k:Int):=by omega
     by_cases hb:k + 1 + 2 ≤ n
     ·have HR:=Lib.hid (show brk b 0 (k + 1) = true from hq.2 ⟨hd,ha,hb⟩)
      have hb2:(2:Int) ≤ (n:Int) - (k:Int) - 1:=by omega
      clear hq
      go_enter Tryz.func174,Tryz.ntmps174
      go_wp2
      go_ret
      exact ⟨by rw [HR.out]; rfl,HB.out⟩
     ·have HR:=Lib.hid (show brk b 0 (k + 1) = false from by rw [← Bool.not_eq_true]; exact fun h=>hb (hq.1 h).2.2)
      have hb2:¬ (2:Int) ≤ (n:Int) - (k:Int) - 1:=by omega
      clear hq
      go_enter Tryz.func174,Tryz.ntmps174
      go_wp2
      go_ret
      exact ⟨by rw [HR.out]; rfl,HB.out⟩
    ·have ha2:¬ (2:Int) ≤ (k:Int):=by omega
     have HR:=Lib.hid (show brk b 0 (k + 1) = false from by rw [← Bool.not_eq_true]; exact fun h=>ha (hq.1 h).2.1)
     clear hq
     go_enter Tryz.func174,Tryz.ntmps174
     go_wp2
     go_ret
     exact ⟨by rw [HR.out]; rfl,HB.out⟩
   ·rw [decide_eq_false hd] at hc
    have HR:=Lib.hid (show brk b 0 (k + 1) = false from by rw [← Bool.not_eq_true]; exact fun h=>hd (hq.1 h).1)
    clear hq
    go_enter Tryz.func174,Tryz.ntmps174
    go_wp2
    go_ret
    exact ⟨by rw [HR.out]; rfl,HB.out⟩
  ·rw [if_neg f0] at hq
   have f02:((f:Int) == 0) = false:=by rw [beq_eq_false_iff_ne]; omega
   by_cases hd:kd = 2
   ·rw [decide_eq_true hd] at hc
    by_cases ha:f + 2 ≤ k + 1
    ·have ha2:(2:Int) ≤ (k:Int) - (f:Int) + 1:=by omega
     by_cases hb:k + 1 + 2 ≤ n
     ·have HR:=Lib.hid (show brk b f (k + 1) = true from hq.2 ⟨hd,ha,hb⟩)
      have hb2:(2:Int) ≤ (n:Int) - (k:Int) - 1:=by omega
      clear hq
      go_enter Tryz.func174,Tryz.ntmps174
      go_wp2
      go_ret
      exact ⟨by rw [HR.out]; rfl,HB.out⟩
     ·have HR:=Lib.hid (show brk b f (k + 1) = false from by rw [← Bool.not_eq_true]; exact fun h=>hb (hq.1 h).2.2)
      have hb2:¬ (2:Int) ≤ (n:Int) - (k:Int) - 1:=by omega
      clear hq
      go_enter Tryz.func174,Tryz.ntmps174
      go_wp2
      go_ret
      exact ⟨by rw [HR.out]; rfl,HB.out⟩
    ·have ha2:¬ (2:Int) ≤ (k:Int) - (f:Int) + 1:=by omega
     have HR:=Lib.hid (show brk b f (k + 1) = false from by rw [← Bool.not_eq_true]; exact fun h=>ha (hq.1 h).2.1)
     clear hq
     go_enter Tryz.func174,Tryz.ntmps174
     go_wp2
     go_ret
     exact ⟨by rw [HR.out]; rfl,HB.out⟩
   ·rw [decide_eq_false hd] at hc
    have HR:=Lib.hid (show brk b f (k + 1) = false from by rw [← Bool.not_eq_true]; exact fun h=>hd (hq.1 h).1)
    clear hq
    go_enter Tryz.func174,Tryz.ntmps174
    go_wp2
    go_ret
    exact ⟨by rw [HR.out]; rfl,HB.out⟩
 obtain ⟨e1,e3⟩:=rkN_no _ h1 h3
 have HR:=Lib.hid (brk_none (b:=b) (f:=f) (k:=k + 1) h1 h3)
 have HB:=Lib.hid (HBG.out (rkN b.kind))
 clear hv hF hks HBG
 generalize rkN b.kind = rk at *
 go_enter Tryz.func174,Tryz.ntmps174
 go_wp2
 go_ret
 exact ⟨by rw [HR.out]; rfl,HB.out⟩
set_option maxRecDepth 100000 in
set_option maxHeartbeats 4000000 in
theorem headR_c {F:Nat → Prop} (b:Blk) (A1:Option Addr) (c1:Nat) (A2:Option Addr) (n2 c2:Nat) (w:World) (hl:b.lines.length ≤ 1000000) (hv:Sli boR w F b.kinds (.slice A2 n2 c2)) (hF:∀ q,F q → q < w.heap.size) (hks:b.kind = 3 → b.kinds.length = b.lines.length) :
  Calls Tryz.prog 117 #[.agg (rbA b (.slice A1 b.lines.length c1) (.slice A2 n2 c2))] w (InP (leastB b:Int) w):=by
 have G0:=Lib.hid (show PvG w [(w.heap.size,rbA b (.slice A1 b.lines.length c1) (.slice A2 n2 c2),162)] (w.alloc (.cells (rbA b (.slice A1 b.lines.length c1) (.slice A2 n2 c2)) 162)) from (BO.start w).new _ _)
 have HBR:=Lib.hid (fun (W:World) (h:Below w.heap.size w W) (k:Nat) (h1:k < b.lines.length)=>mayBreak_c b A1 c1 A2 n2 c2 0 k W (Nat.zero_le _) h1 hl (hv.below h hF) (fun q h2=>Nat.lt_of_lt_of_le (hF q h2) h.size) hks)
 obtain ⟨n,hn⟩:∃ n,b.lines.length = n:=⟨_,rfl⟩
 have HN:=Lib.hid hn
 have HLB:=Lib.hid (show (¬ b.kind = 1 → ¬ b.kind = 3 → leastB b = n) ∧ (b.kind = 1 → 3 < n → leastB b = 2) ∧ (¬ (b.kind = 1 ∧ 3 < n) → ¬ (b.kind = 3 ∧ 4 < n) → leastB b = n) by
  rw [← hn]
  refine ⟨fun h1 h3=>?_,fun h1 h2=>?_,fun h1 h2=>?_⟩
  ·unfold leastB; rw [if_neg (fun h=>h1 h.1),if_neg (fun h=>h3 h.1)]
  ·unfold leastB; rw [if_pos ⟨h1,h2⟩]
  ·unfold leastB; rw [if_neg h1,if_neg h2])
 unfold rbA at *
 rw [hn] at hl G0 HBR ⊢
 clear hv hF hks hn
 have hX:∀ (rk:Int) W,PvG w [(w.heap.size,#[.int .i64 rk,.slice A1 n c1,.slice A2 n2 c2],162)] W → W.cell? ⟨w.heap.size,0,none⟩ = some (.int .i64 rk) ∧ W.cell? ⟨w.heap.size,1,none⟩ = some (.slice A1 n c1) ∧ W.cell? ⟨w.heap.size,2,none⟩ = some (.slice A2 n2 c2):=fun rk W h=>by
  obtain ⟨x,_⟩:=h.cell (p:=(w.heap.size,#[.int .i64 rk,.slice A1 n c1,.slice A2 n2 c2],162)) (by simp)
  exact ⟨x 0,x 1,x 2⟩
 have HX:=Lib.hid hX
 clear hX
 by_cases h1:b.kind = 1
 ·rw [rkN_1 _ h1] at G0 ⊢
  by_cases h2:3 < n
  ·have h2':(3:Int) < (n:Int):=by omega
   have HR:=Lib.hid (HLB.out.2.1 h1 h2)
   clear HX HBR
   go_enter Tryz.func117,Tryz.ntmps117
   go_wp2
   go_ret
   exact ⟨by rw [HR.out]; rfl,G0.out.bel⟩
  ·have h2':¬ (3:Int) < (n:Int):=by omega
   have HR:=Lib.hid (HLB.out.2.2 (fun h=>h2 h.2) (fun h=>by omega))
   clear HX HBR
   go_enter Tryz.func117,Tryz.ntmps117
   go_wp2
   go_ret
   exact ⟨by rw [HR.out]; rfl,G0.out.bel⟩
 by_cases h3:b.kind = 3
 ·rw [rkN_3 _ h3] at G0 HBR ⊢
  by_cases h4:4 < n
  ·have h4':(4:Int) < (n:Int):=by omega
   have HX2:=Lib.hid (HX.out 2)
   clear HX
   go_enter Tryz.func117,Tryz.ntmps117
   go_upto_region 1 with (fail)
   generalize w.alloc (.cells #[.int .i64 2,.slice A1 n c1,.slice A2 n2 c2] 162) = w1 at *
   obtain ⟨x0,x1,x2⟩:=HX2.out w1 G0.out
   go_wp2
   go_loopw [27] (fun i wr=>∃ k:Nat,k ≤ n ∧ i = .int .i64 k ∧ Hid (∀ j,j < k + 1 → brk b 0 j = false) ∧ Hid (PvG w [(w.heap.size,#[.int .i64 2,.slice A1 n c1,.slice A2 n2 c2],162)] wr)) (fun i _=>n - (intOf i).toNat)
   case atStart=>exact ⟨0,Nat.zero_le _,rfl,(fun j hj=>by
    obtain rfl:j = 0:=by omega
    exact brk0 b),G0.out⟩
   case round=>
    clear G0 x0 x1 x2
    obtain ⟨k,hk,rfl,HJ,HG⟩:=hrel
    obtain ⟨x0,x1,x2⟩:=HX2.out wr HG.out
    by_cases hlt:k < n
    ·have HB:=Lib.hid (HBR.out wr HG.out.bel k hlt)
     go_wp2_with fail
     refine HB.out.mono ?_
     rintro e w2 ⟨rfl,hb2⟩
     have G2:=Lib.hid (HG.out.below hb2)
     clear hb2 HB HG x0 x1 x2
     cases hbr:brk b 0 (k + 1) with
     | true=>
      have hkn:k + 1 < n:=by
       have:=((brk_grp h3).1 hbr).2.2
       rw [HN.out] at this
       omega
      have HR:=Lib.hid (least_some h3 (by rw [HN.out]; exact h4) (by rw [HN.out]; exact hkn) hbr HJ.out)
      have r2:IntKind.i64.wrap ((k:Int) + 2) = ((k + 1 + 1:Nat):Int):=by rw [IntWalk.i64_in _ (by omega)]; omega
      go_wp2
      go_ret
      exact ⟨by rw [HR.out]; rfl,G2.out.bel⟩
     | false=>
      go_wp2
      go_roundw
      case rel=>exact ⟨k + 1,by omega,intNum,(fun j hj=>by
       by_cases e:j = k + 1
       ·subst e; exact hbr
       ·exact HJ.out j (by omega)),G2.out⟩
      case measure=>simp [intOf]; omega
    ·have hkn:k = n:=by omega
     subst hkn
     have HR:=Lib.hid (least_none h3 (by rw [HN.out]; exact h4) (by rw [HN.out]; exact fun j hj=>HJ.out j (by omega)))
     rw [HN.out] at HR
     go_wp2
     go_ret
     exact ⟨by rw [HR.out]; rfl,HG.out.bel⟩
  ·have h4':¬ (4:Int) < (n:Int):=by omega
   have HR:=Lib.hid (HLB.out.2.2 (fun h=>h1 h.1) (fun h=>h4 h.2))
   clear HX HBR
   go_enter Tryz.func117,Tryz.ntmps117
   go_wp2
   go_ret
   exact ⟨by rw [HR.out]; rfl,G0.out.bel⟩
 ·obtain ⟨e1,e3⟩:=rkN_no _ h1 h3
  have HR:=Lib.hid (HLB.out.1 h1 h3)
  clear HX HBR
  generalize rkN b.kind = rk at *
  go_enter Tryz.func117,Tryz.ntmps117
  go_wp2
  go_ret
  exact ⟨by rw [HR.out]; rfl,G0.out.bel⟩
end Go.Proofs.YtaoobkgepcikiaaGreatDoor
