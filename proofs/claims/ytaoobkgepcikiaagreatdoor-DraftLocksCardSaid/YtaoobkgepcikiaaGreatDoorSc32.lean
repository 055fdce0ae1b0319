/- Texts packed: PaA. -/
import Derived.Test.YtaoobkgepcikiaaGreatDoorSc31
import Derived.Deep.DeepCutAuto
namespace Go.Proofs.YtaoobkgepcikiaaGreatDoor
set_option linter.unusedVariables false
open Go.RowKit Go.Sort
abbrev knR:Rep Nat:=Rep.flat 1 (fun k:Nat=>[.int .i64 (k:Int)]) (fun _=>rfl)
def bkA (b:Blk) (v1 v2:Value):Array Value:=#[.int .i64 (b.kind:Int),v1,v2,.string b.name]
theorem knAt {w:World} {F:Nat → Prop} {l:List Nat} {A:Option Addr} {n c:Nat} (h:Sli knR w F l (.slice A n c)) (k:Nat) (hk:k < l.length):∃ b off,A = some ⟨b,off,none⟩ ∧ F b ∧ w.cell? ⟨b,off + k,none⟩ = some (.int .i64 (l[k]:Int)):=by
 obtain ⟨A',c',e,h1,h2,h3⟩:=h
 injection e with e1 e2 e3
 subst e1
 obtain ⟨b,off,cs,rfl,hF,hl,hc⟩:=h3 (by omega)
 refine ⟨b,off,rfl,hF,hc k _ ?_⟩
 have hz:(cs.drop (k * 1)).take 1 = [.int .i64 (l[k]:Int)]:=hl.2 k _ (List.getElem?_eq_getElem hk)
 rw [Nat.mul_one] at hz
 have:=congrArg (fun q:List Value=>q[0]?) hz
 simpa using this
def BoP (b:Bool) (w:World) (e:Ending) (w':World):Prop:=e = .returned (.bool b) ∧ Below w.heap.size w w'
def InP (n:Int) (w:World) (e:Ending) (w':World):Prop:=e = .returned (.int .i64 n) ∧ Below w.heap.size w w'
set_option maxRecDepth 100000 in
set_option maxHeartbeats 2000000 in
theorem breaks_c {F:Nat → Prop} (b:Blk) (A1:Option Addr) (c1:Nat) (A2:Option Addr) (n2 c2 f k:Nat) (w:World) (hf:f < k) (hk:k ≤ b.lines.length) (hl:b.lines.length ≤ 1000000) (hv:Sli knR w F b.kinds (.slice A2 n2 c2)) (hF:∀ q,F q → q < w.heap.size) (hks:b.kind = 3 → b.kinds.length = b.lines.length) :
  Calls Tryz.prog 158 #[.agg (bkA b (.slice A1 b.lines.length c1) (.slice A2 n2 c2)),.int .i64 f,.int .i64 k] w (BoP (brk b f k) w):=by
 have HBG:=Lib.hid (fun kv:Int=>show Below w.heap.size w (w.alloc (.cells #[.int .i64 kv,.slice A1 b.lines.length c1,.slice A2 n2 c2,.string b.name] 99)).drew from
  have h:=(Below.refl w.heap.size w).alloc (Nat.le_refl _) (.cells #[.int .i64 kv,.slice A1 b.lines.length c1,.slice A2 n2 c2,.string b.name] 99)
  ⟨h.os,h.tape,h.output,h.size,h.block⟩)
 unfold bkA
 generalize hn:b.lines.length = n at *
 by_cases h1:b.kind = 1
 ·have hq:=brk_act (f:=f) (k:=k) h1
  rw [hn] at hq
  have ek:(b.kind:Int) = 1:=by omega
  have HB:=Lib.hid (HBG.out 1)
  rw [ek]
  by_cases ha:f + 2 ≤ k
  ·have ha2:(2:Int) ≤ (k:Int) - (f:Int):=by omega
   by_cases hb:k + 2 ≤ n
   ·have HR:=Lib.hid (show brk b f k = true from hq.2 ⟨ha,hb⟩)
    have hb2:(2:Int) ≤ (n:Int) - (k:Int):=by omega
    clear hq hv hF hks
    go_enter Tryz.func158,Tryz.ntmps158
    go_upto_region 1 with (fail)
    go_region
    go_wp2
    go_ret
    exact ⟨by rw [HR.out]; rfl,HB.out⟩
   ·have HR:=Lib.hid (show brk b f k = false from by rw [← Bool.not_eq_true]; exact fun h=>hb (hq.1 h).2)
    have hb2:¬ (2:Int) ≤ (n:Int) - (k:Int):=by omega
    clear hq hv hF hks
    go_enter Tryz.func158,Tryz.ntmps158
    go_upto_region 1 with (fail)
    go_region
    go_wp2
    go_ret
    exact ⟨by rw [HR.out]; rfl,HB.out⟩
  ·have HR:=Lib.hid (show brk b f k = false from by rw [← Bool.not_eq_true]; exact fun h=>ha (hq.1 h).1)
   have ha2:¬ (2:Int) ≤ (k:Int) - (f:Int):=by omega
   clear hq hv hF hks
   go_enter Tryz.func158,Tryz.ntmps158
   go_upto_region 1 with (fail)
   go_region
   go_wp2
   go_ret
   exact ⟨by rw [HR.out]; rfl,HB.out⟩
 by_cases h3:b.kind = 3
 ·have ek:(b.kind:Int) = 3:=by omega
  have hq:=brk_grp (f:=f) (k:=k) h3
  rw [hn] at hq
  have hkk:k - 1 < b.kinds.length:=by rw [hks h3]; omega
  have hnn:n2 = b.kinds.length:=by
   obtain ⟨_,_,e,_⟩:=hv
   injection e with _ e _
  obtain ⟨bb,off,rfl,hFb,hc⟩:=knAt hv (k - 1) hkk
  have hlt:=hF _ hFb
  rw [List.getD_eq_getElem?_getD,List.getElem?_eq_getElem hkk] at hq
  change brk b f k = true ↔ b.kinds[k - 1] = 2 ∧ _ at hq
  have hn2:k - 1 < n2:=by omega
  have hkc:((k:Int) - 1).toNat = k - 1:=by omega
  have hk1:(0:Int) ≤ (k:Int) - 1:=by omega
  have hk2:(k:Int) - 1 < (n2:Int):=by omega
  have HB:=Lib.hid (HBG.out 3)
  rw [ek]
  clear hv
  generalize b.kinds[k - 1] = kd at *
  clear hnn hF hks hkk
  by_cases f0:f = 0
  ·subst f0
   rw [if_pos rfl] at hq
   by_cases hd:kd = 2
   ·subst hd
    by_cases ha:3 ≤ k
    ·have ha2:(2:Int) ≤ (k:Int) - 1:=by omega
     by_cases hb:k + 2 ≤ n
     ·have HR:=Lib.hid (show brk b 0 k = true from hq.2 ⟨rfl,ha,hb⟩)
      have hb2:(2:Int) ≤ (n:Int) - (k:Int):=by omega
      clear hq
      go_enter Tryz.func158,Tryz.ntmps158
      go_upto_region 1 with (fail)
      go_region
      go_wp2
      go_ret
      exact ⟨by rw [HR.out]; rfl,HB.out⟩
     ·have HR:=Lib.hid (show brk b 0 k = false from by rw [← Bool.not_eq_true]; exact fun h=>hb (hq.1 h).2.2)
      have hb2:¬ (2:Int) ≤ (n:Int) - (k:Int):=by omega
      clear hq
      go_enter Tryz.func158,Tryz.ntmps158
      go_upto_region 1 with (fail)
      go_region
      go_wp2
      go_ret
      exact ⟨by rw [HR.out]; rfl,HB.out⟩
    ·have ha2:¬ (2:Int) ≤ (k:Int) - 1:=by omega
     have HR:=Lib.hid (show brk b 0 k = false from by rw [← Bool.not_eq_true]; exact fun h=>ha (hq.1 h).2.1)
     clear hq
     go_enter Tryz.func158,Tryz.ntmps158
     go_upto_region 1 with (fail)
     go_region
     go_wp2
     go_ret
     exact ⟨by rw [HR.out]; rfl,HB.out⟩
   ·have hd2:((kd:Int) == 2) = false:=by rw [beq_eq_false_iff_ne]; omega
    have HR:=Lib.hid (show brk b 0 k = false from by rw [← Bool.not_eq_true]; exact fun h=>hd (hq.1 h).1)
    clear hq
    go_enter Tryz.func158,Tryz.ntmps158
    go_upto_region 1 with (fail)
    go_region
    go_wp2
    go_ret
    exact ⟨by rw [HR.out]; rfl,HB.out⟩
  ·rw [if_neg f0] at hq
   have f02:((f:Int) == 0) = false:=by rw [beq_eq_false_iff_ne]; omega
   by_cases hd:kd = 2
   ·subst hd
    by_cases ha:f + 2 ≤ k
    ·have ha2:(2:Int) ≤ (k:Int) - (f:Int):=by omega
     by_cases hb:k + 2 ≤ n
     ·have HR:=Lib.hid (show brk b f k = true from hq.2 ⟨rfl,ha,hb⟩)
      have hb2:(2:Int) ≤ (n:Int) - (k:Int):=by omega
      clear hq
      go_enter Tryz.func158,Tryz.ntmps158
      go_upto_region 1 with (fail)
      go_region
      go_wp2
      go_ret
      exact ⟨by rw [HR.out]; rfl,HB.out⟩
     ·have HR:=Lib.hid (show brk b f k = false from by rw [← Bool.not_eq_true]; exact fun h=>hb (hq.1 h).2.2)
      have hb2:¬ (2:Int) ≤ (n:Int) - (k:Int):=by omega
      clear hq
      go_enter Tryz.func158,Tryz.ntmps158
      go_upto_region 1 with (fail)
      go_region
      go_wp2
      go_ret
      exact ⟨by rw [HR.out]; rfl,HB.out⟩
    ·have ha2:¬ (2:Int) ≤ (k:Int) - (f:Int):=by omega
     have HR:=Lib.hid (show brk b f k = false from by rw [← Bool.not_eq_true]; exact fun h=>ha (hq.1 h).2.1)
     clear hq
     go_enter Tryz.func158,Tryz.ntmps158
     go_upto_region 1 with (fail)
     go_region
     go_wp2
     go_ret
     exact ⟨by rw [HR.out]; rfl,HB.out⟩
   ·have hd2:((kd:Int) == 2) = false:=by rw [beq_eq_false_iff_ne]; omega
    have HR:=Lib.hid (show brk b f k = false from by rw [← Bool.not_eq_true]; exact fun h=>hd (hq.1 h).1)
    clear hq
    go_enter Tryz.func158,Tryz.ntmps158
    go_upto_region 1 with (fail)
    go_region
    go_wp2
    go_ret
    exact ⟨by rw [HR.out]; rfl,HB.out⟩
 have e1:((b.kind:Int) == 1) = false:=by rw [beq_eq_false_iff_ne]; omega
 have e3:((b.kind:Int) == 3) = false:=by rw [beq_eq_false_iff_ne]; omega
 have HR:=Lib.hid (brk_none (b:=b) (f:=f) (k:=k) h1 h3)
 have HB:=Lib.hid (HBG.out (b.kind:Int))
 clear hv hF hks
 go_enter Tryz.func158,Tryz.ntmps158
 go_upto_region 1 with (fail)
 go_region
 go_wp2
 go_ret
 exact ⟨by rw [HR.out]; rfl,HB.out⟩
theorem brk0 (b:Blk):brk b 0 0 = false:=by
 cases h:brk b 0 0 with
 | false=>rfl
 | true=>
  by_cases h1:b.kind = 1
  ·have:=((brk_act h1).1 h).1; omega
  ·by_cases h3:b.kind = 3
   ·have:=((brk_grp h3).1 h).2.1; rw [if_pos rfl] at this; omega
   ·rw [brk_none h1 h3] at h; cases h
theorem least_some {b:Blk} {k:Nat} (h3:b.kind = 3) (h4:4 < b.lines.length) (hk:k < b.lines.length) (hb:brk b 0 k = true) (hn:∀ j,j < k → brk b 0 j = false):leastB b = k + 1:=by
 unfold leastB
 rw [if_neg (fun h=>by omega),if_pos ⟨h3,h4⟩]
 have:(List.range b.lines.length).find? (fun k=>brk b 0 k) = some k:=by
  rw [List.find?_range_eq_some]
  exact ⟨hb,by simpa using hk,fun j hj=>by simp [hn j hj]⟩
 rw [this]
theorem least_none {b:Blk} (h3:b.kind = 3) (h4:4 < b.lines.length) (hn:∀ j,j < b.lines.length → brk b 0 j = false):leastB b = b.lines.length:=by
 unfold leastB
 rw [if_neg (fun h=>by omega),if_pos ⟨h3,h4⟩]
 have:(List.range b.lines.length).find? (fun k=>brk b 0 k) = none:=by
  rw [List.find?_range_eq_none]
  exact fun j hj=>by simp [hn j hj]
 rw [this]
theorem least_pos {b:Blk} (h:1 ≤ b.lines.length):1 ≤ leastB b:=by
 unfold leastB
 split
 ·omega
 ·split
  ·split <;> omega
  ·omega
set_option maxRecDepth 100000 in
set_option maxHeartbeats 2000000 in
theorem least_c {F:Nat → Prop} (b:Blk) (A1:Option Addr) (c1:Nat) (A2:Option Addr) (n2 c2:Nat) (w:World) (hl:b.lines.length ≤ 1000000) (hv:Sli knR w F b.kinds (.slice A2 n2 c2)) (hF:∀ q,F q → q < w.heap.size) (hks:b.kind = 3 → b.kinds.length = b.lines.length) :
  Calls Tryz.prog 157 #[.agg (bkA b (.slice A1 b.lines.length c1) (.slice A2 n2 c2))] w (InP (leastB b:Int) w):=by
 have G0:=Lib.hid (show PvG w [(w.heap.size,bkA b (.slice A1 b.lines.length c1) (.slice A2 n2 c2),99)] (w.alloc (.cells (bkA b (.slice A1 b.lines.length c1) (.slice A2 n2 c2)) 99)) from (BO.start w).new _ _)
 have HBR:=Lib.hid (fun (W:World) (h:Below w.heap.size w W) (k:Nat) (h0:0 < k) (h1:k ≤ b.lines.length)=>breaks_c b A1 c1 A2 n2 c2 0 k W h0 h1 hl (hv.below h hF) (fun q h2=>Nat.lt_of_lt_of_le (hF q h2) h.size) hks)
 obtain ⟨n,hn⟩:∃ n,b.lines.length = n:=⟨_,rfl⟩
 have HN:=Lib.hid hn
 have HLB:=Lib.hid (show (¬ b.kind = 1 → ¬ b.kind = 3 → leastB b = n) ∧ (b.kind = 1 → 3 < n → leastB b = 2) ∧ (¬ (b.kind = 1 ∧ 3 < n) → ¬ (b.kind = 3 ∧ 4 < n) → leastB b = n) by
  rw [← hn]
  refine ⟨fun h1 h3=>?_,fun h1 h2=>?_,fun h1 h2=>?_⟩
  ·unfold leastB; rw [if_neg (fun h=>h1 h.1),if_neg (fun h=>h3 h.1)]
  ·unfold leastB; rw [if_pos ⟨h1,h2⟩]
  ·unfold leastB; rw [if_neg h1,if_neg h2])
 unfold bkA at *
 rw [hn] at hl G0 HBR ⊢
 clear hv hF hks hn
 have hX:∀ W,PvG w [(w.heap.size,#[.int .i64 (b.kind:Int),.slice A1 n c1,.slice A2 n2 c2,.string b.name],99)] W → W.cell? ⟨w.heap.size,0,none⟩ = some (.int .i64 (b.kind:Int)) ∧ W.cell? ⟨w.heap.size,1,none⟩ = some (.slice A1 n c1) ∧ W.cell? ⟨w.heap.size,2,none⟩ = some (.slice A2 n2 c2) ∧ W.cell? ⟨w.heap.size,3,none⟩ = some (.string b.name):=fun W h=>by
  obtain ⟨x,_⟩:=h.cell (p:=(w.heap.size,#[.int .i64 (b.kind:Int),.slice A1 n c1,.slice A2 n2 c2,.string b.name],99)) (by simp)
  exact ⟨x 0,x 1,x 2,x 3⟩
 have HX:=Lib.hid hX
 clear hX
 by_cases h1:b.kind = 1
 ·have ek:(b.kind:Int) = 1:=by omega
  rw [ek] at G0 ⊢
  by_cases h2:3 < n
  ·have h2':(3:Int) < (n:Int):=by omega
   have HR:=Lib.hid (HLB.out.2.1 h1 h2)
   clear HX HBR
   go_enter Tryz.func157,Tryz.ntmps157
   go_wp2
   go_ret
   exact ⟨by rw [HR.out]; rfl,G0.out.bel⟩
  ·have h2':¬ (3:Int) < (n:Int):=by omega
   have HR:=Lib.hid (HLB.out.2.2 (fun h=>h2 h.2) (fun h=>by omega))
   clear HX HBR
   go_enter Tryz.func157,Tryz.ntmps157
   go_wp2
   go_ret
   exact ⟨by rw [HR.out]; rfl,G0.out.bel⟩
 have e1:((b.kind:Int) == 1) = false:=by rw [beq_eq_false_iff_ne]; omega
 by_cases h3:b.kind = 3
 ·by_cases h4:4 < n
  ·have h4':(4:Int) < (n:Int):=by omega
   have ek:(b.kind:Int) = 3:=by omega
   simp only [ek] at HX HBR G0 ⊢
   go_enter Tryz.func157,Tryz.ntmps157
   go_upto_region 1 with (fail)
   generalize w.alloc (.cells #[.int .i64 3,.slice A1 n c1,.slice A2 n2 c2,.string b.name] 99) = w1 at *
   obtain ⟨x0,x1,x2,x3⟩:=HX.out w1 G0.out
   go_wp2
   go_loopw [4] (fun i wr=>∃ k:Nat,1 ≤ k ∧ k ≤ n ∧ i = .int .i64 k ∧ Hid (∀ j,j < k → brk b 0 j = false) ∧ Hid (PvG w [(w.heap.size,#[.int .i64 3,.slice A1 n c1,.slice A2 n2 c2,.string b.name],99)] wr)) (fun i _=>n - (intOf i).toNat)
   case atStart=>exact ⟨1,Nat.le_refl _,by omega,rfl,(fun j hj=>by
    obtain rfl:j = 0:=by omega
    exact brk0 b),G0.out⟩
   case round=>
    clear G0 x0 x1 x2 x3
    obtain ⟨k,hk1,hk,rfl,HJ,HG⟩:=hrel
    by_cases hlt:k < n
    ·obtain ⟨x0,x1,x2,x3⟩:=HX.out wr HG.out
     have HB:=Lib.hid (HBR.out wr HG.out.bel k (by omega) (by omega))
     go_wp2_with fail
     refine HB.out.mono ?_
     rintro e w2 ⟨rfl,hb2⟩
     have G2:=Lib.hid (HG.out.below hb2)
     clear hb2 HB HG x0 x1 x2 x3
     cases hbr:brk b 0 k with
     | true=>
      have HR:=Lib.hid (least_some h3 (by rw [HN.out]; exact h4) (by rw [HN.out]; exact hlt) hbr HJ.out)
      go_wp2
      go_ret
      exact ⟨by rw [HR.out]; rfl,G2.out.bel⟩
     | false=>
      go_wp2
      go_roundw
      case rel=>exact ⟨k + 1,by omega,by omega,intNum,(fun j hj=>by
       by_cases e:j = k
       ·subst e; exact hbr
       ·exact HJ.out j (by omega)),G2.out⟩
      case measure=>simp [intOf]; omega
    ·have hkn:k = n:=by omega
     subst hkn
     have HR:=Lib.hid (least_none h3 (by rw [HN.out]; exact h4) (by rw [HN.out]; exact HJ.out))
     rw [HN.out] at HR
     go_wp2
     go_ret
     exact ⟨by rw [HR.out]; rfl,HG.out.bel⟩
  ·have h4':¬ (4:Int) < (n:Int):=by omega
   have ek:(b.kind:Int) = 3:=by omega
   rw [ek] at G0 ⊢
   have HR:=Lib.hid (HLB.out.2.2 (fun h=>h1 h.1) (fun h=>h4 h.2))
   clear HX HBR
   go_enter Tryz.func157,Tryz.ntmps157
   go_wp2
   go_ret
   exact ⟨by rw [HR.out]; rfl,G0.out.bel⟩
 ·have e3:((b.kind:Int) == 3) = false:=by rw [beq_eq_false_iff_ne]; omega
  have HR:=Lib.hid (HLB.out.1 h1 h3)
  clear HX HBR
  go_enter Tryz.func157,Tryz.ntmps157
  go_wp2
  go_ret
  exact ⟨by rw [HR.out]; rfl,G0.out.bel⟩
end Go.Proofs.YtaoobkgepcikiaaGreatDoor
