/- Texts packed: HdB, KpW, KpX, KpY, EqW. -/
import Derived.Test.YtaoobkgepcikiaaGreatDoorSc10
import Derived.Test.YtaoobkgepcikiaaGreatDoorSc08
import Derived.Test.YtaoobkgepcikiaaGreatDoorSc02
import Derived.Test.YtaoobkgepcikiaaGreatDoorSc03
import Derived.Test.YtaoobkgepcikiaaGreatDoorSc01
import Derived.Test.YtaoobkgepcikiaaGreatDoorSc13
import Derived.Deep.RegionWith
import Derived.BigRegion
import Derived.Test.YtaoobkgepcikiaaGreatDoorSc06
import Derived.Deep.QuietTactic
import Derived.BigQuiet
namespace Go.Proofs.YtaoobkgepcikiaaGreatDoor
set_option linter.unusedVariables false
section
open Go.RowKit Go.Sort
abbrev dumR:Rep Int:=intR
abbrev PvG (w:World) (P:List (Nat × Array Value × TypeId)) (wx:World):Prop:=BO dumR 3 w [] (.slice none 0 0) P wx
theorem pvStart (w:World):PvG w [] w:=BO.start w
def scC (no:ByteArray) (place:Int) (set:ByteArray) (time:Int) (v:Value):Array Value:=#[.string no,.int .i64 place,.string set,.int .i64 time,v]
theorem sc_cells {wx:World} {b:Nat} {no set:ByteArray} {place time:Int} {v:Value} (h:(∀ i,wx.cell? ⟨b,i,none⟩ = (scC no place set time v)[i]?) ∧ (∀ i,wx.frozen? ⟨b,i,none⟩ = false)) :
  wx.cell? ⟨b,0,none⟩ = some (.string no) ∧ wx.cell? ⟨b,1,none⟩ = some (.int .i64 place) ∧ wx.cell? ⟨b,2,none⟩ = some (.string set) ∧ wx.cell? ⟨b,3,none⟩ = some (.int .i64 time) ∧ wx.cell? ⟨b,4,none⟩ = some v:=⟨h.1 0,h.1 1,h.1 2,h.1 3,h.1 4⟩
end
section
open Go.RowKit Go.Sort
theorem Sli.txt {w:World} {F:Nat → Prop} {l:List ByteArray} {A:Option Addr} {n c:Nat} (h:Sli strR w F l (.slice A n c)) (k:Nat) (hk:k < l.length):∃ b off,A = some ⟨b,off,none⟩ ∧ F b ∧ w.cell? ⟨b,off + k,none⟩ = some (.string l[k]):=by
 obtain ⟨b,off,cs,h1,h2,h3,h4⟩:=h.at_ k hk
 refine ⟨b,off,h1,h2,?_⟩
 have:=h4 0 (.string l[k]) (by rw [show cs = [.string l[k]] from h3]; rfl)
 rw [show off + k * strR.n + 0 = off + k by show off + k * 1 + 0 = off + k; omega] at this
 exact this
end
section
open Go.RowKit Go.Sort
end
section
open Go.RowKit Go.Sort
end
section
open Go.RowKit
instance:DecidableEq Para:=fun a b=>decidable_of_iff (a.kind = b.kind ∧ a.text = b.text) (by cases a; cases b; simp)
instance:DecidableEq Scene:=fun a b=>decidable_of_iff (a.no = b.no ∧ a.place = b.place ∧ a.set = b.set ∧ a.time = b.time ∧ a.paras = b.paras) (by cases a; cases b; simp)
instance:DecidableEq Script:=fun a b=>decidable_of_iff (a.title = b.title ∧ a.scenes = b.scenes) (by cases a; cases b; simp)
theorem beq_ne {a b:ByteArray} (h:¬ a = b):(a.toList == b.toList) = false:=by
 have:=beqS a b
 rw [this]; simpa using h
theorem paraAt {w:World} {F:Nat → Prop} {l:List Para} {A:Option Addr} {n c:Nat} (h:Sli paraR w F l (.slice A n c)) (k:Nat) (hk:k < l.length):∃ b off,A = some ⟨b,off,none⟩ ∧ F b ∧ w.cell? ⟨b,off + k * 2,none⟩ = some (.int .i64 l[k].kind) ∧ w.cell? ⟨b,off + k * 2 + 1,none⟩ = some (.string l[k].text):=by
 obtain ⟨b,off,a,e,hb,hr,hc⟩:=h.at_ k hk
 have ha:a = (l[k]).cells:=hr
 subst ha
 exact ⟨b,off,e,hb,hc 0 _ rfl,hc 1 _ rfl⟩
set_option maxRecDepth 100000 in
set_option maxHeartbeats 800000 in
theorem eqPara_c (l1 l2:List Para) (v1 v2:Value) (F:Nat → Prop) (w:World) (h1:Sli paraR w F l1 v1) (h2:Sli paraR w F l2 v2) (hF:∀ b,F b → b < w.heap.size) :
  Calls Tryz.prog 66 #[v1,v2] w fun e w'=>e = .returned (.bool (decide (l1 = l2))) ∧ Below w.heap.size w w':=by
 obtain ⟨A1,c1,rfl,hlc1,hc1⟩:=h1.form
 obtain ⟨A2,c2,rfl,hlc2,hc2⟩:=h2.form
 have H1:=Lib.hid h1; clear h1
 have H2:=Lib.hid h2; clear h2
 have HF:=Lib.hid hF; clear hF
 by_cases hne:l1.length = l2.length
 ·obtain ⟨n,hn1⟩:∃ n,l1.length = n:=⟨_,rfl⟩
  have hn2:l2.length = n:=by omega
  rw [hn1] at H1 hlc1 ⊢
  rw [hn2] at H2 ⊢
  go_enter Tryz.func66,Tryz.ntmps66
  go_wp2
  go_loopw [13] (fun i wr=>∃ k:Nat,k ≤ n ∧ i = .int .i64 k ∧ Below w.heap.size w wr ∧ Hid (l1.take k = l2.take k)) (fun i _=>n - (intOf i).toNat)
  case atStart=>exact ⟨0,Nat.zero_le _,rfl,Below.refl _ _,rfl⟩
  case round=>
   obtain ⟨k,hk,rfl,hb,HT⟩:=hrel
   by_cases hlt:k < n
   ·obtain ⟨b,off,rfl,hfb,c0,c1⟩:=paraAt (H1.out.below hb HF.out) k (by omega)
    obtain ⟨b2,off2,rfl,hfb2,d0,d1⟩:=paraAt (H2.out.below hb HF.out) k (by omega)
    by_cases he:l1[k]'(by omega) = l2[k]'(by omega)
    ·have HN:=Lib.hid (eq_take_next (by omega) (by omega) HT.out he)
     rw [he] at c0 c1
     clear he
     generalize l2[k]'(by omega) = x at *
     go_wp2
     go_region
     go_wp2
     go_roundw
     case rel=>exact ⟨k + 1,by omega,intNum,by first | exact hb | exact hb.drew | exact below_drewN hb _,HN.out⟩
     case measure=>simp [intOf]; omega
    ·have HN:=Lib.hid (ne_at (by omega) (by omega) he)
     generalize l1[k]'(by omega) = x at *
     generalize l2[k]'(by omega) = y at *
     by_cases q1:x.kind = y.kind
     ·have q2:=beq_ne (a:=x.text) (b:=y.text) (fun e=>he (by cases x; cases y; simp_all))
      have q2':¬ x.text.toList = y.text.toList:=by simpa using q2
      clear he
      go_wp2
      go_region
      go_wp2
      go_ret
      exact ⟨ret_bool (by symm; simpa using HN.out),by first | exact hb | exact hb.drew | exact below_drewN hb _⟩
     ·clear he
      go_wp2
      go_region
      go_wp2
      go_ret
      exact ⟨ret_bool (by symm; simpa using HN.out),by first | exact hb | exact hb.drew | exact below_drewN hb _⟩
   ·have e:k = n:=by omega
    have HN:=Lib.hid (show l1 = l2 by have:=HT.out; rwa [List.take_of_length_le (by omega),List.take_of_length_le (by omega)] at this)
    go_wp2
    go_ret
    exact ⟨ret_bool (by symm; simpa using HN.out),hb⟩
 ·have HN:=Lib.hid (show ¬ l1 = l2 by intro h; exact hne (by rw [h]))
  have hz:¬ (l1.length:Int) = l2.length:=by omega
  go_enter Tryz.func66,Tryz.ntmps66
  go_wp2
  go_ret
  exact ⟨ret_bool (by symm; simpa using HN.out),Below.refl _ _⟩
set_option maxRecDepth 100000 in
set_option maxHeartbeats 2000000 in
theorem sameScene1_c (x y:Scene) (u v:Value) (F:Nat → Prop) (w:World) (hx:Sli paraR w F x.paras u) (hy:Sli paraR w F y.paras v) (hF:∀ b,F b → b < w.heap.size) :
  Calls Tryz.prog 65 #[.agg #[.string x.no,.int .i64 x.place,.string x.set,.int .i64 x.time,u],.agg #[.string y.no,.int .i64 y.place,.string y.set,.int .i64 y.time,v]] w fun e w'=>e = .returned (.bool (decide (x = y))) ∧ Below w.heap.size w w':=by
 obtain ⟨A1,c1,rfl,_,_⟩:=hx.form
 obtain ⟨A2,c2,rfl,_,_⟩:=hy.form
 have HX:=Lib.hid hx
 have HY:=Lib.hid hy
 have HF:=Lib.hid hF
 clear hx hy hF
 obtain ⟨xn,xp,xs,xt,xl⟩:=x
 obtain ⟨yn,yp,ys,yt,yl⟩:=y
 dsimp only at *
 obtain ⟨n1,hn1⟩:∃ n,xl.length = n:=⟨_,rfl⟩
 obtain ⟨n2,hn2⟩:∃ n,yl.length = n:=⟨_,rfl⟩
 rw [hn1] at HX ⊢
 rw [hn2] at HY ⊢
 clear hn1 hn2
 go_enter Tryz.func65,Tryz.ntmps65
 go_upto_region 1 with (fail)
 have hG:PvG w [(w.heap.size + 1,#[.string yn,.int .i64 yp,.string ys,.int .i64 yt,.slice A2 n2 c2],46),(w.heap.size,#[.string xn,.int .i64 xp,.string xs,.int .i64 xt,.slice A1 n1 c1],46)] ((w.alloc (.cells #[.string xn,.int .i64 xp,.string xs,.int .i64 xt,.slice A1 n1 c1] 46)).alloc (.cells #[.string yn,.int .i64 yp,.string ys,.int .i64 yt,.slice A2 n2 c2] 46)):=by
  have h:=((pvStart w).new #[.string xn,.int .i64 xp,.string xs,.int .i64 xt,.slice A1 n1 c1] 46).new #[.string yn,.int .i64 yp,.string ys,.int .i64 yt,.slice A2 n2 c2] 46
  rw [show (w.alloc (.cells #[.string xn,.int .i64 xp,.string xs,.int .i64 xt,.slice A1 n1 c1] 46)).heap.size = w.heap.size + 1 by simp] at h
  exact h
 generalize (w.alloc (.cells #[.string xn,.int .i64 xp,.string xs,.int .i64 xt,.slice A1 n1 c1] 46)).alloc (.cells #[.string yn,.int .i64 yp,.string ys,.int .i64 yt,.slice A2 n2 c2] 46) = w1 at *
 have ga:=(hG.cell (p:=(w.heap.size,#[.string xn,.int .i64 xp,.string xs,.int .i64 xt,.slice A1 n1 c1],46)) (by simp)).1
 have gb:=(hG.cell (p:=(w.heap.size + 1,#[.string yn,.int .i64 yp,.string ys,.int .i64 yt,.slice A2 n2 c2],46)) (by simp)).1
 have e0:=ga 0
 have e1:=ga 1
 have e2:=ga 2
 have e3:=ga 3
 have e4:=ga 4
 have d0:=gb 0
 have d1:=gb 1
 have d2:=gb 2
 have d3:=gb 3
 have d4:=gb 4
 simp only [List.getElem?_toArray,List.getElem?_cons_zero,List.getElem?_cons_succ] at e0 e1 e2 e3 e4 d0 d1 d2 d3 d4
 have HB:=Lib.hid hG.bel
 have HEQ:=Lib.hid (eqPara_c xl yl (.slice A1 n1 c1) (.slice A2 n2 c2) F w1 (HX.out.below hG.bel HF.out) (HY.out.below hG.bel HF.out) (fun b hb=>Nat.lt_of_lt_of_le (HF.out b hb) hG.bel.size))
 clear ga gb hG HX HY HF
 by_cases e0:xn = yn
 case neg=>
  have t0:=beq_ne e0
  have HN:=Lib.hid (show ¬ (⟨xn,xp,xs,xt,xl⟩:Scene) = ⟨yn,yp,ys,yt,yl⟩ from fun e=>e0 (by injection e))
  clear e0
  go_wp2
  go_ret
  exact ⟨ret_bool (by symm; simpa using HN.out),HB.out⟩
 subst e0
 by_cases e1:xp = yp
 case neg=>
  have t1:(xp == yp) = false:=beq_eq_false_iff_ne.2 e1
  have HN:=Lib.hid (show ¬ (⟨xn,xp,xs,xt,xl⟩:Scene) = ⟨xn,yp,ys,yt,yl⟩ from fun e=>e1 (by injection e))
  clear e1
  go_wp2
  go_ret
  exact ⟨ret_bool (by symm; simpa using HN.out),HB.out⟩
 subst e1
 by_cases e2:xs = ys
 case neg=>
  have t2:=beq_ne e2
  have HN:=Lib.hid (show ¬ (⟨xn,xp,xs,xt,xl⟩:Scene) = ⟨xn,xp,ys,yt,yl⟩ from fun e=>e2 (by injection e))
  clear e2
  go_wp2
  go_ret
  exact ⟨ret_bool (by symm; simpa using HN.out),HB.out⟩
 subst e2
 by_cases e3:xt = yt
 case neg=>
  have t3:(xt == yt) = false:=beq_eq_false_iff_ne.2 e3
  have HN:=Lib.hid (show ¬ (⟨xn,xp,xs,xt,xl⟩:Scene) = ⟨xn,xp,xs,yt,yl⟩ from fun e=>e3 (by injection e))
  clear e3
  go_wp2
  go_ret
  exact ⟨ret_bool (by symm; simpa using HN.out),HB.out⟩
 subst e3
 go_wp2_with fail
 refine HEQ.out.mono ?_
 rintro e w2 ⟨rfl,hb2⟩
 have HB2:=Lib.hid (HB.out.trans (hb2.mono HB.out.size))
 have HDE:=Lib.hid (show decide (xl = yl) = decide ((⟨xn,xp,xs,xt,xl⟩:Scene) = ⟨xn,xp,xs,xt,yl⟩) by simp)
 generalize decide (xl = yl) = d at *
 go_wp2
 go_ret
 exact ⟨ret_bool HDE.out,HB2.out⟩
end
end Go.Proofs.YtaoobkgepcikiaaGreatDoor
