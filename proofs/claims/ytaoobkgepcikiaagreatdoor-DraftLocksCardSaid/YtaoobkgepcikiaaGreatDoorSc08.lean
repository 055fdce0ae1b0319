/- Texts packed: ChkS, ChkA, ChkB, ChkC, GrS, CsS, CoS, HdS, HeadD, HeadE, ChkR, RdS, RtS, HfS, SegS, SegW, SegX, WpF. -/
import Derived.Test.YtaoobkgepcikiaaGreatDoorSc07
import Derived.Test.YtaoobkgepcikiaaGreatDoorSc02
import Derived.RegionTactic
import Derived.Test.YtaoobkgepcikiaaGreatDoorSc04
import Derived.Test.YtaoobkgepcikiaaGreatDoorSc01
import Derived.Lib.LastIndexLaws
import Derived.Lib.SlicesS
import Derived.RangeFuncNested
import Derived.RangeFuncBound
import Derived.RangeFuncCalls
import Derived.RangeFuncLeaves
import Derived.Shelf.Abstract
import Derived.Shelf.RegionOpen
import Derived.WalkKit
import Derived.OwnWalkIn
import Derived.TacticsInMore
import Derived.LoopNIn
import Derived.LoopIn
import Derived.Deep.DeepCutAuto
namespace Go.Proofs.YtaoobkgepcikiaaGreatDoor
set_option linter.unusedVariables false
section
open Go.RowKit
def nameB (s:ByteArray):Bool:=proB s 30 ⟨#[39,46,45]⟩
def turnC (c:UInt8):Bool:=capB c || decide (c.toNat = 32) || decide (c.toNat = 46)
def turnB (s:ByteArray):Bool:=allB turnC s && decide (s.size ≤ 40)
def brB (s:ByteArray):Bool:=Lib.containsAny s.data.toList (⟨#[40,41]⟩:ByteArray).data.toList
def paraE (p:Para):Int:=
 if p.kind < 1 ∨ 5 < p.kind then 4
 else if p.text.size = 0 ∨ plainB p.text = false then 3
 else if 2000 < p.text.size ∨ (p.kind = 3 ∧ 200 < p.text.size) then 2
 else if p.kind = 2 ∧ nameB p.text = false then 5
 else if p.kind = 3 ∧ brB p.text = true then 3
 else if p.kind = 5 ∧ turnB p.text = false then 3 else 0
def followsB (kind last:Int):Bool:=if kind = 3 then decide (last = 2) || decide (last = 4) else if kind = 4 then decide (last = 2) || decide (last = 3) || decide (last = 4) else !decide (last = 2) && !decide (last = 3)
def parasE:Int → List Para → Int
 | last,[]=>if last = 2 ∨ last = 3 then 7 else 0
 | last,p :: r=>if ¬ paraE p = 0 then paraE p else if followsB p.kind last = false then 7 else parasE p.kind r
theorem parasE_step (l:List Para) (k:Nat) (last:Int) (hk:k < l.length):parasE last (l.drop k) = if ¬ paraE l[k] = 0 then paraE l[k] else if followsB l[k].kind last = false then 7 else parasE l[k].kind (l.drop (k + 1)):=by
 rw [List.drop_eq_getElem_cons hk,parasE]
theorem parasE_end (l:List Para) (k:Nat) (last:Int) (hk:¬ k < l.length):parasE last (l.drop k) = if last = 2 ∨ last = 3 then 7 else 0:=by
 rw [List.drop_eq_nil_of_le (by omega),parasE]
def sceneE (s:Scene):Int:=if setB s.set = false then 3 else parasE 0 s.paras
def scenesE:Nat → List ByteArray → List Scene → Int
 | _,_,[]=>0
 | k,seen,x :: r=>
  if ¬ x.no = ⟨#[]⟩ ∧ numB x.no = false then 5
  else if ¬ x.no = ⟨#[]⟩ ∧ (seen.any fun y=>decide (y = x.no)) = true then 6
  else if x.place < 1 ∨ 3 < x.place ∨ x.time < 1 ∨ 5 < x.time then 4
  else if k = 0 ∧ x.time = 5 then 7
  else if ¬ sceneE x = 0 then sceneE x else scenesE (k + 1) (x.no :: seen) r
def parasN (l:List Scene):Nat:=(l.map fun x=>x.paras.length).sum
def chkE (x:Script):Int:=
 if x.title.size < 1 ∨ 60 < x.title.size ∨ plainB x.title = false then 3
 else if 300 < x.scenes.length ∨ 4000 < parasN x.scenes then 2
 else scenesE 0 [] x.scenes
end
section
open Go.RowKit
set_option maxHeartbeats 800000 in
theorem isName_c (s:ByteArray) (w:World) (hs:s.size ≤ 4000000000) (hm:MaxLaid w):Calls Tryz.prog 150 #[.string s] w fun e w'=>e = .returned (.bool (nameB s)) ∧ w = w':=by
 have HP:=Lib.hid (proper_c s ⟨#[39,46,45]⟩ 30 w hs hm (by omega))
 have HR:=Lib.hid (show nameB s = proB s 30 ⟨#[39,46,45]⟩ from rfl)
 generalize proB s 30 ⟨#[39,46,45]⟩ = p1 at *
 clear hm
 go_enter Tryz.func150,Tryz.ntmps150
 go_wp2_with fail
 refine HP.out.mono ?_
 rintro e w' ⟨rfl,rfl⟩
 go_wp2
 go_ret
 exact ⟨ret_bool HR.out.symm,rfl⟩
set_option maxHeartbeats 800000 in
theorem isTurn_c (s:ByteArray) (w:World) (hs:s.size ≤ 4000000000):Calls Tryz.prog 152 #[.string s] w fun e w'=>e = .returned (.bool (turnB s)) ∧ w = w':=by
 go_enter Tryz.func152,Tryz.ntmps152
 go_wp2
 go_loop [6] (fun i=>∃ k:Nat,k ≤ s.size ∧ i = .int .i64 k ∧ Hid (∀ x ∈ s.data.toList.take k,turnC x = true)) (fun i=>s.size - (intOf i).toNat)
 case atStart=>exact ⟨0,Nat.zero_le _,rfl,by intro x hx; simp at hx⟩
 case round=>
  obtain ⟨k,hk,rfl,HN⟩:=hrel
  by_cases hlt:k < s.size
  ·have hu:s[k].toNat < 256:=s[k].toNat_lt
   have HCC:=Lib.hid (isCapital_c s[k] w)
   have HNX:=Lib.hid (fun (h:turnC s[k] = true)=>allB_next hlt HN.out h)
   have HX:=Lib.hid (fun (h:turnC s[k] = false)=>show turnB s = false by unfold turnB; rw [allB_no hlt h]; rfl)
   cases hc1:capB s[k] with
   | true=>
    have HK:=Lib.hid (HNX.out (by simp [turnC,hc1]))
    go_wp2_with (first | (go_at_call 89; refine HCC.out.mono ?_; rintro e w' ⟨rfl,rfl⟩; rw [hc1]) | fail)
    go_round
    case rel=>exact ⟨k + 1,by omega,intNum,HK.out⟩
    case measure=>simp [intOf]; omega
   | false=>
   by_cases hc2:s[k].toNat = 32
   ·have HK:=Lib.hid (HNX.out (by simp [turnC,hc2]))
    have hc2':((s[k].toNat:Int) != 32) = false:=by rw [hc2]; rfl
    clear hc2
    go_wp2_with (first | (go_at_call 89; refine HCC.out.mono ?_; rintro e w' ⟨rfl,rfl⟩; rw [hc1]) | fail)
    go_round
    case rel=>exact ⟨k + 1,by omega,intNum,HK.out⟩
    case measure=>simp [intOf]; omega
   have hc2':((s[k].toNat:Int) != 32) = true:=bne_iff_ne.2 (by omega)
   by_cases hc3:s[k].toNat = 46
   ·have HK:=Lib.hid (HNX.out (by simp [turnC,hc3]))
    have hc3':((s[k].toNat:Int) != 46) = false:=by rw [hc3]; rfl
    clear hc3 hc2
    go_wp2_with (first | (go_at_call 89; refine HCC.out.mono ?_; rintro e w' ⟨rfl,rfl⟩; rw [hc1]) | fail)
    go_round
    case rel=>exact ⟨k + 1,by omega,intNum,HK.out⟩
    case measure=>simp [intOf]; omega
   ·have HR:=Lib.hid (HX.out (by simp [turnC,hc1,hc2,hc3]))
    have hc3':((s[k].toNat:Int) != 46) = true:=bne_iff_ne.2 (by omega)
    clear hc3 hc2
    go_wp2_with (first | (go_at_call 89; refine HCC.out.mono ?_; rintro e w' ⟨rfl,rfl⟩; rw [hc1]) | fail)
    go_ret
    exact ⟨ret_bool HR.out.symm,rfl⟩
  ·have HR:=Lib.hid (show turnB s = decide ((s.size:Int) ≤ 40) by unfold turnB; rw [allB_yes hlt HN.out,Bool.true_and,decide_eq_decide]; omega)
   go_wp2
   go_ret
   exact ⟨ret_bool HR.out.symm,rfl⟩
set_option maxHeartbeats 800000 in
theorem follows_c (kind last:Int) (w:World):Calls Tryz.prog 92 #[.int .i64 kind,.int .i64 last] w fun e w'=>e = .returned (.bool (followsB kind last)) ∧ w = w':=by
 by_cases h1:kind = 3
 ·have HR:=Lib.hid (show followsB kind last = (decide (last = 2) || decide (last = 4)) from if_pos h1)
  have h1':(kind == 3) = true:=by rw [h1]; rfl
  clear h1
  by_cases h2:last = 2
  ·have h2':(last == 2) = true:=by rw [h2]; rfl
   have HR2:=Lib.hid (show followsB kind last = true by rw [HR.out,decide_eq_true h2]; rfl)
   clear h2
   go_enter Tryz.func92,Tryz.ntmps92
   go_wp2
   go_ret
   exact ⟨ret_bool HR2.out.symm,rfl⟩
  ·have h2':(last == 2) = false:=beq_eq_false_iff_ne.2 h2
   have HR2:=Lib.hid (show followsB kind last = (last == 4) by rw [HR.out,decide_eq_false h2]; rfl)
   clear h2
   go_enter Tryz.func92,Tryz.ntmps92
   go_wp2
   go_ret
   exact ⟨ret_bool HR2.out.symm,rfl⟩
 have h1':(kind == 3) = false:=beq_eq_false_iff_ne.2 h1
 by_cases h4:kind = 4
 ·have HR:=Lib.hid (show followsB kind last = (decide (last = 2) || decide (last = 3) || decide (last = 4)) by rw [followsB,if_neg h1,if_pos h4])
  have h4':(kind == 4) = true:=by rw [h4]; rfl
  clear h1 h4
  by_cases h2:last = 2
  ·have h2':(last == 2) = true:=by rw [h2]; rfl
   have HR2:=Lib.hid (show followsB kind last = true by rw [HR.out,decide_eq_true h2]; rfl)
   clear h2
   go_enter Tryz.func92,Tryz.ntmps92
   go_wp2
   go_ret
   exact ⟨ret_bool HR2.out.symm,rfl⟩
  have h2':(last == 2) = false:=beq_eq_false_iff_ne.2 h2
  by_cases h3:last = 3
  ·have h3':(last == 3) = true:=by rw [h3]; rfl
   have HR2:=Lib.hid (show followsB kind last = true by rw [HR.out,decide_eq_true h3]; simp)
   clear h2 h3
   go_enter Tryz.func92,Tryz.ntmps92
   go_wp2
   go_ret
   exact ⟨ret_bool HR2.out.symm,rfl⟩
  ·have h3':(last == 3) = false:=beq_eq_false_iff_ne.2 h3
   have HR2:=Lib.hid (show followsB kind last = (last == 4) by rw [HR.out,decide_eq_false h2,decide_eq_false h3]; rfl)
   clear h2 h3
   go_enter Tryz.func92,Tryz.ntmps92
   go_wp2
   go_ret
   exact ⟨ret_bool HR2.out.symm,rfl⟩
 ·have HR:=Lib.hid (show followsB kind last = (!decide (last = 2) && !decide (last = 3)) by rw [followsB,if_neg h1,if_neg h4])
  have h4':(kind == 4) = false:=beq_eq_false_iff_ne.2 h4
  clear h1 h4
  by_cases h2:last = 2
  ·have h2':(last != 2) = false:=by rw [h2]; rfl
   have HR2:=Lib.hid (show followsB kind last = false by rw [HR.out,decide_eq_true h2]; rfl)
   clear h2
   go_enter Tryz.func92,Tryz.ntmps92
   go_wp2
   go_ret
   exact ⟨ret_bool HR2.out.symm,rfl⟩
  ·have h2':(last != 2) = true:=bne_iff_ne.2 h2
   have HR2:=Lib.hid (show followsB kind last = (last != 3) by rw [HR.out,decide_eq_false h2]; rfl)
   clear h2
   go_enter Tryz.func92,Tryz.ntmps92
   go_wp2
   go_ret
   exact ⟨ret_bool HR2.out.symm,rfl⟩
end
section
open Go.RowKit
theorem max_alloc {w:World} (h:MaxLaid w) (o:Obj):MaxLaid (w.alloc o):=max_below h ((Below.refl w.heap.size w).alloc (Nat.le_refl _) o) (Nat.le_refl _)
theorem plain_ascii {s:ByteArray} (h:plainB s = true):∀ (j:Nat) (b:UInt8),s.data.toList[j]? = some b → b.toNat < 128:=by
 intro j b hj
 unfold plainB allB at h
 rw [Bool.and_eq_true,List.all_eq_true] at h
 have h2:=h.1 b (List.mem_of_getElem? hj)
 simp [prB] at h2
 omega
def PfP (p:Para) (w:World) (e:Ending) (w':World):Prop:=e = .returned (.int .i64 (paraE p)) ∧ Below w.heap.size w w'
theorem PfP.mk {p:Para} {q:Int} {w w':World} (h:paraE p = q) (hb:Below w.heap.size w w'):PfP p w (.returned (.int .i64 q)) w':=⟨by rw [h],hb⟩
set_option maxRecDepth 100000 in
set_option maxHeartbeats 4000000 in
theorem paraFault_c (p:Para) (w:World) (hs:p.text.size ≤ 4000000000) (hm:MaxLaid w):Calls Tryz.prog 91 #[.agg #[.int .i64 p.kind,.string p.text]] w (PfP p w):=by
 obtain ⟨kind,s⟩:=p
 dsimp only at hs ⊢
 have HM:=Lib.hid (max_alloc hm (.cells #[.int .i64 kind,.string s] 78))
 have HB:=Lib.hid ((Below.refl w.heap.size w).alloc (Nat.le_refl _) (.cells #[.int .i64 kind,.string s] 78))
 have HPL:=Lib.hid (Plain_c s (w.alloc (.cells #[.int .i64 kind,.string s] 78)) hs HM.out)
 have HNA:=Lib.hid (isName_c s (w.alloc (.cells #[.int .i64 kind,.string s] 78)) hs HM.out)
 have HTU:=Lib.hid (isTurn_c s (w.alloc (.cells #[.int .i64 kind,.string s] 78)) hs)
 clear hm
 by_cases k1:kind < 1
 ·have HR:=Lib.hid (show paraE ⟨kind,s⟩ = 4 from if_pos (.inl k1))
  go_enter Tryz.func91,Tryz.ntmps91
  go_wp2
  go_ret
  exact PfP.mk HR.out HB.out
 by_cases k2:5 < kind
 ·have HR:=Lib.hid (show paraE ⟨kind,s⟩ = 4 from if_pos (.inr k2))
  have k1':1 ≤ kind:=by omega
  clear k1
  go_enter Tryz.func91,Tryz.ntmps91
  go_wp2
  go_ret
  exact PfP.mk HR.out HB.out
 have HR1:=Lib.hid (show paraE ⟨kind,s⟩ = if s.size = 0 ∨ plainB s = false then 3 else if 2000 < s.size ∨ (kind = 3 ∧ 200 < s.size) then 2 else if kind = 2 ∧ nameB s = false then 5 else if kind = 3 ∧ brB s = true then 3 else if kind = 5 ∧ turnB s = false then 3 else 0 from if_neg (by dsimp only; omega))
 have k1':1 ≤ kind:=by omega
 have k2':kind ≤ 5:=by omega
 clear k1 k2
 cases he:s.toList.isEmpty with
 | true=>
  have HR:=Lib.hid (HR1.out.trans (if_pos (.inl (by rw [isEmpty_size] at he; simpa using he))))
  go_enter Tryz.func91,Tryz.ntmps91
  go_wp2
  go_ret
  exact PfP.mk HR.out HB.out
 | false=>
 have hse:¬ s.size = 0:=by rw [isEmpty_size] at he; simpa using he
 cases hpl:plainB s with
 | false=>
  have HR:=Lib.hid (HR1.out.trans (if_pos (.inr hpl)))
  clear hse
  go_enter Tryz.func91,Tryz.ntmps91
  go_wp2_with (first | (go_at_call 44; refine HPL.out.mono ?_; rintro e w' ⟨rfl,rfl⟩; rw [hpl]) | fail)
  go_ret
  exact PfP.mk HR.out HB.out
 | true=>
 have HR2:=Lib.hid (HR1.out.trans (if_neg (by rintro (h | h); exact hse h; rw [hpl] at h; cases h)))
 have HCA:=Lib.hid (Tryz.strings_ContainsAny_laid s ⟨#[40,41]⟩ (w.alloc (.cells #[.int .i64 kind,.string s] 78)) (by omega) (by decide) (plain_ascii hpl) (by
  intro j b hj
  have h:((⟨#[40,41]⟩:ByteArray).data.toList.all fun b=>decide (b.toNat < 128)) = true:=by decide
  rw [List.all_eq_true] at h
  simpa using h b (List.mem_of_getElem? hj)))
 clear hse HR1
 by_cases k3:2000 < s.size
 ·have HR:=Lib.hid (HR2.out.trans (if_pos (.inl k3)))
  have k3':(2000:Int) < s.size:=by omega
  go_enter Tryz.func91,Tryz.ntmps91
  go_wp2_with (first | (go_at_call 44; refine HPL.out.mono ?_; rintro e w' ⟨rfl,rfl⟩; rw [hpl]) | fail)
  go_ret
  exact PfP.mk HR.out HB.out
 have k3':(s.size:Int) ≤ 2000:=by omega
 rcases (show kind = 1 ∨ kind = 2 ∨ kind = 3 ∨ kind = 4 ∨ kind = 5 by omega) with rfl | rfl | rfl | rfl | rfl
 ·have HR:=Lib.hid (show paraE ⟨1,s⟩ = 0 by rw [HR2.out,if_neg (by omega),if_neg (by rintro ⟨h,_⟩; exact absurd h (by decide)),if_neg (by rintro ⟨h,_⟩; exact absurd h (by decide)),if_neg (by rintro ⟨h,_⟩; exact absurd h (by decide))])
  go_enter Tryz.func91,Tryz.ntmps91
  go_wp2_with (first | (go_at_call 44; refine HPL.out.mono ?_; rintro e w' ⟨rfl,rfl⟩; rw [hpl]) | fail)
  go_ret
  exact PfP.mk HR.out HB.out
 ·cases hna:nameB s with
  | false=>
   have HR:=Lib.hid (show paraE ⟨2,s⟩ = 5 by rw [HR2.out,if_neg (by omega),if_pos ⟨rfl,hna⟩])
   go_enter Tryz.func91,Tryz.ntmps91
   go_wp2_with (first | (go_at_call 44; refine HPL.out.mono ?_; rintro e w' ⟨rfl,rfl⟩; rw [hpl]) | (go_at_call 150; refine HNA.out.mono ?_; rintro e w' ⟨rfl,rfl⟩; rw [hna]) | fail)
   go_ret
   exact PfP.mk HR.out HB.out
  | true=>
   have HR:=Lib.hid (show paraE ⟨2,s⟩ = 0 by rw [HR2.out,if_neg (by omega),if_neg (by rintro ⟨_,h⟩; rw [hna] at h; cases h),if_neg (by rintro ⟨h,_⟩; exact absurd h (by decide)),if_neg (by rintro ⟨h,_⟩; exact absurd h (by decide))])
   go_enter Tryz.func91,Tryz.ntmps91
   go_wp2_with (first | (go_at_call 44; refine HPL.out.mono ?_; rintro e w' ⟨rfl,rfl⟩; rw [hpl]) | (go_at_call 150; refine HNA.out.mono ?_; rintro e w' ⟨rfl,rfl⟩; rw [hna]) | fail)
   go_ret
   exact PfP.mk HR.out HB.out
 ·by_cases k4:200 < s.size
  ·have HR:=Lib.hid (show paraE ⟨3,s⟩ = 2 by rw [HR2.out,if_pos (.inr ⟨rfl,k4⟩)])
   have k4':(200:Int) < s.size:=by omega
   go_enter Tryz.func91,Tryz.ntmps91
   go_wp2_with (first | (go_at_call 44; refine HPL.out.mono ?_; rintro e w' ⟨rfl,rfl⟩; rw [hpl]) | fail)
   go_ret
   exact PfP.mk HR.out HB.out
  ·have HR:=Lib.hid (show paraE ⟨3,s⟩ = if brB s = true then 3 else 0 by
    rw [HR2.out,if_neg (by omega),if_neg (by rintro ⟨h,_⟩; exact absurd h (by decide))]
    cases hbr:brB s with
    | true=>rw [if_pos ⟨rfl,rfl⟩,if_pos rfl]
    | false=>rw [if_neg (by rintro ⟨_,h⟩; cases h),if_neg (by rintro ⟨h,_⟩; exact absurd h (by decide)),if_neg (by decide)])
   have k4':(s.size:Int) ≤ 200:=by omega
   have HBR:=Lib.hid (show brB s = Lib.containsAny s.data.toList (⟨#[40,41]⟩:ByteArray).data.toList from rfl)
   generalize brB s = bb at *
   rw [← HBR.out] at HCA
   clear k4
   go_enter Tryz.func91,Tryz.ntmps91
   go_wp2_with (first | (go_at_call 44; refine HPL.out.mono ?_; rintro e w' ⟨rfl,rfl⟩; rw [hpl]) | fail)
   refine HCA.out.mono ?_
   rintro e w2 ⟨rfl,hb2⟩
   have HB2:=Lib.hid (HB.out.trans (hb2.mono (by simp)))
   have c0:w2.cell? ⟨w.heap.size,0,none⟩ = some (.int .i64 3):=(hb2.cell (p:=⟨w.heap.size,0,none⟩) (by simp)).trans ((str_cells (heap_alloc_new w _)).1 0)
   have c1:w2.cell? ⟨w.heap.size,1,none⟩ = some (.string s):=(hb2.cell (p:=⟨w.heap.size,1,none⟩) (by simp)).trans ((str_cells (heap_alloc_new w _)).1 1)
   clear hb2
   cases bb with
   | true=>
    go_wp2
    go_ret
    exact PfP.mk HR.out HB2.out
   | false=>
    go_wp2
    go_ret
    exact PfP.mk HR.out HB2.out
 ·have HR:=Lib.hid (show paraE ⟨4,s⟩ = 0 by rw [HR2.out,if_neg (by omega),if_neg (by rintro ⟨h,_⟩; exact absurd h (by decide)),if_neg (by rintro ⟨h,_⟩; exact absurd h (by decide)),if_neg (by rintro ⟨h,_⟩; exact absurd h (by decide))])
  go_enter Tryz.func91,Tryz.ntmps91
  go_wp2_with (first | (go_at_call 44; refine HPL.out.mono ?_; rintro e w' ⟨rfl,rfl⟩; rw [hpl]) | fail)
  go_ret
  exact PfP.mk HR.out HB.out
 ·cases htu:turnB s with
  | false=>
   have HR:=Lib.hid (show paraE ⟨5,s⟩ = 3 by rw [HR2.out,if_neg (by omega),if_neg (by rintro ⟨h,_⟩; exact absurd h (by decide)),if_neg (by rintro ⟨h,_⟩; exact absurd h (by decide)),if_pos ⟨rfl,htu⟩])
   go_enter Tryz.func91,Tryz.ntmps91
   go_wp2_with (first | (go_at_call 44; refine HPL.out.mono ?_; rintro e w' ⟨rfl,rfl⟩; rw [hpl]) | (go_at_call 152; refine HTU.out.mono ?_; rintro e w' ⟨rfl,rfl⟩; rw [htu]) | fail)
   go_ret
   exact PfP.mk HR.out HB.out
  | true=>
   have HR:=Lib.hid (show paraE ⟨5,s⟩ = 0 by rw [HR2.out,if_neg (by omega),if_neg (by rintro ⟨h,_⟩; exact absurd h (by decide)),if_neg (by rintro ⟨h,_⟩; exact absurd h (by decide)),if_neg (by rintro ⟨_,h⟩; rw [htu] at h; cases h)])
   go_enter Tryz.func91,Tryz.ntmps91
   go_wp2_with (first | (go_at_call 44; refine HPL.out.mono ?_; rintro e w' ⟨rfl,rfl⟩; rw [hpl]) | (go_at_call 152; refine HTU.out.mono ?_; rintro e w' ⟨rfl,rfl⟩; rw [htu]) | fail)
   go_ret
   exact PfP.mk HR.out HB.out
end
section
open Go.RowKit
def ScP (x:Scene) (w:World) (e:Ending) (w':World):Prop:=e = .returned (.int .i64 (sceneE x)) ∧ Below w.heap.size w w'
theorem ScP.mk {x:Scene} {q:Int} {w w':World} (h:sceneE x = q) (hb:Below w.heap.size w w'):ScP x w (.returned (.int .i64 q)) w':=⟨by rw [h],hb⟩
set_option maxRecDepth 100000 in
set_option maxHeartbeats 4000000 in
theorem sceneFault_c {F:Nat → Prop} (x:Scene) (v:Value) (w:World) (hv:Sli paraR w F x.paras v) (hF:∀ b,F b → b < w.heap.size) (hs:x.set.size ≤ 4000000000) (ht:∀ p ∈ x.paras,p.text.size ≤ 4000000000) (hl:x.paras.length ≤ 1000000) (hm:MaxLaid w) :
  Calls Tryz.prog 46 #[.agg #[.string x.no,.int .i64 x.place,.string x.set,.int .i64 x.time,v]] w (ScP x w):=by
 obtain ⟨A,c,rfl,hlc,hcm⟩:=hv.form
 obtain ⟨L,hL⟩:∃ L,x.paras.length = L:=⟨_,rfl⟩
 have HL:=Lib.hid hL
 rw [hL] at hv hlc hl ⊢
 have HM0:=Lib.hid hm
 have HM:=Lib.hid (max_alloc hm (.cells #[.string x.no,.int .i64 x.place,.string x.set,.int .i64 x.time,.slice A L c] 46))
 have HB:=Lib.hid ((Below.refl w.heap.size w).alloc (Nat.le_refl _) (.cells #[.string x.no,.int .i64 x.place,.string x.set,.int .i64 x.time,.slice A L c] 46))
 have HS:=Lib.hid (isSet_c x.set (w.alloc (.cells #[.string x.no,.int .i64 x.place,.string x.set,.int .i64 x.time,.slice A L c] 46)) hs HM.out)
 have HV:=Lib.hid hv
 have HF:=Lib.hid hF
 have HT:=Lib.hid ht
 clear hL hm hv hF ht
 cases hse:setB x.set with
 | false=>
  have HR:=Lib.hid (show sceneE x = 3 from if_pos hse)
  go_enter Tryz.func46,Tryz.ntmps46
  go_wp2_with (first | (go_at_call 90; refine HS.out.mono ?_; rintro e w' ⟨rfl,rfl⟩; rw [hse]) | fail)
  go_ret
  exact ScP.mk HR.out HB.out
 | true=>
 have HR:=Lib.hid (show sceneE x = parasE 0 x.paras from if_neg (by rw [hse]; decide))
 go_enter Tryz.func46,Tryz.ntmps46
 go_wp2_with (first | (go_at_call 90; refine HS.out.mono ?_; rintro e w' ⟨rfl,rfl⟩; rw [hse]) | fail)
 clear hse HS
 go_loopw [3,14] (fun la i wr=>∃ (k:Nat) (q:Int),k ≤ L ∧ i = .int .i64 k ∧ la = .int .i64 q ∧ Hid (sceneE x = parasE q (x.paras.drop k)) ∧ Hid (Below w.heap.size w wr) ∧ w.heap.size ≤ wr.heap.size) (fun _ i _=>L - (intOf i).toNat)
 case atStart=>exact ⟨0,0,Nat.zero_le _,rfl,rfl,HR.out,HB.out,by simp⟩
 case round=>
  clear HB HM HR
  obtain ⟨k,q,hk,rfl,rfl,HE,HB,hzw⟩:=hrel
  by_cases hlt:k < L
  ·have hk2:k < x.paras.length:=by rw [HL.out]; exact hlt
   obtain ⟨b,off,rfl,hfb,c0,c1⟩:=para_at (HV.out.below HB.out HF.out) k hk2
   have hst:=HE.out.trans (parasE_step x.paras k q hk2)
   have htx:=HT.out _ (List.getElem_mem hk2)
   have hbw:b < wr.heap.size:=by have:=HF.out b hfb; omega
   generalize x.paras[k]'hk2 = p at *
   have HST:=Lib.hid hst
   have HB1:=Lib.hid (HB.out.alloc hzw (.cells #[.int .i64 p.kind,.string p.text] 78))
   have HPF:=Lib.hid (paraFault_c p (wr.alloc (.cells #[.int .i64 p.kind,.string p.text] 78)) htx (max_below HM0.out HB1.out (Nat.le_refl _)))
   clear hst hk2 HE
   go_wp2_with fail
   refine HPF.out.mono ?_
   rintro e w2 ⟨rfl,hb2⟩
   have hz2:=hb2.size
   simp at hz2
   have HB2:=Lib.hid (HB1.out.trans (hb2.mono (by simp; omega)))
   have d0:w2.cell? ⟨wr.heap.size,0,none⟩ = some (.int .i64 p.kind):=(hb2.cell (p:=⟨wr.heap.size,0,none⟩) (by simp)).trans ((str_cells (heap_alloc_new wr _)).1 0)
   have hw2:wr.heap.size < w2.heap.size:=by omega
   have HFO:=Lib.hid (follows_c p.kind q w2)
   clear hb2 HPF c0 c1
   by_cases hp0:paraE p = 0
   ·rw [hp0]
    cases hfo:followsB p.kind q with
    | false=>
     have HR:=Lib.hid (HST.out.trans (by rw [if_neg (by rw [hp0]; simp),if_pos hfo]))
     clear hp0 HST
     go_wp2_with (first | (go_at_call 92; refine HFO.out.mono ?_; rintro e w' ⟨rfl,rfl⟩; rw [hfo]) | fail)
     go_ret
     exact ScP.mk HR.out HB2.out
    | true=>
     have HR:=Lib.hid (HST.out.trans (by rw [if_neg (by rw [hp0]; simp),if_neg (by rw [hfo]; decide)]))
     clear hp0 HST
     go_wp2_with (first | (go_at_call 92; refine HFO.out.mono ?_; rintro e w' ⟨rfl,rfl⟩; rw [hfo]) | fail)
     go_roundw
     case rel=>exact ⟨k + 1,p.kind,by omega,intNum,rfl,HR.out,HB2.out,by omega⟩
     case measure=>simp [intOf]; omega
   ·have HR:=Lib.hid (HST.out.trans (if_pos hp0))
    have hne:(paraE p != 0) = true:=by rw [bne_iff_ne]; exact hp0
    generalize paraE p = pe at *
    clear hp0 HST
    go_wp2
    go_ret
    exact ScP.mk HR.out HB2.out
  ·have hend:=HE.out.trans (parasE_end x.paras k q (by rw [HL.out]; exact hlt))
   by_cases h2:q = 2
   ·have HR:=Lib.hid (hend.trans (if_pos (.inl h2)))
    have h2':(q == 2) = true:=by rw [h2]; rfl
    clear hend h2
    go_wp2
    go_ret
    exact ScP.mk HR.out HB.out
   have h2':(q == 2) = false:=beq_eq_false_iff_ne.2 h2
   by_cases h3:q = 3
   ·have HR:=Lib.hid (hend.trans (if_pos (.inr h3)))
    have h3':(q == 3) = true:=by rw [h3]; rfl
    clear hend h2 h3
    go_wp2
    go_ret
    exact ScP.mk HR.out HB.out
   ·have HR:=Lib.hid (hend.trans (if_neg (by rintro (h | h); exact h2 h; exact h3 h)))
    have h3':(q == 3) = false:=beq_eq_false_iff_ne.2 h3
    clear hend h2 h3
    go_wp2
    go_ret
    exact ScP.mk HR.out HB.out
end
section
open Go.RowKit
end
section
open Go.RowKit
end
section
open Go.RowKit
def keepP (v:Value) (w:World):List Pb:=match v.ownBlock with
 | some g=>[(g,fun o=>o = w.heap[g]?)]
 | none=>[]
section
variable {α β:Type} {n m:Nat} {enc:α → List Value} {hn:∀ x,(enc x).length = n} {enc2:β → List Value} {hm:∀ x,(enc2 x).length = m} {e e2:TypeId} {w wx wy:World} {l:List α} {l2:List β} {v v2:Value} {P:List Pb}
theorem keepP_mem {p:Pb} (h:p ∈ keepP v w):v.ownBlock = some p.1 ∧ p.2 = fun o=>o = w.heap[p.1]?:=by
 unfold keepP at h
 cases hv:v.ownBlock with
 | none=>rw [hv] at h; cases h
 | some g=>
  rw [hv] at h
  simp only [List.mem_singleton] at h
  subst h
  exact ⟨rfl,rfl⟩
theorem BM.keepNew {lo:Nat} (h:BM (Rep.flat n enc hn) e w l v P wx) (hb:Below wx.heap.size wx wy) (ho:Own (Rep.flat m enc2 hm) wy wx.heap.size lo e2 l2 v2):BM (Rep.flat n enc hn) e w l v (keepP v2 wy ++ P) wy:=by
 have h2:=h.below hb
 refine ⟨h2.bel,h2.own,fun p hp=>?_⟩
 rcases List.mem_append.1 hp with hp | hp
 ·obtain ⟨h3,h4⟩:=keepP_mem hp
  have hbl:=ho.block _ h3
  exact ⟨by rw [h4],Nat.le_trans h.size hbl.1,hbl.2,fun e=>by have:=(h.own.block _ e).2; omega⟩
 ·exact h2.prv p hp
theorem BM.sliK {lo base:Nat} (h:BM (Rep.flat n enc hn) e w l v P wx) (hP:∀ p ∈ keepP v2 wy,p ∈ P) (ho:Own (Rep.flat m enc2 hm) wy base lo e2 l2 v2):Sli (Rep.flat m enc2 hm) wx (fun q=>v2.ownBlock = some q) l2 v2:=by
 refine Sli.keep (ho.sliF (F:=fun q=>v2.ownBlock = some q) (enc:=enc2) (hn:=hm) (fun g hg=>hg)) fun b hb=>?_
 have hp:(b,fun o=>o = wy.heap[b]?) ∈ keepP v2 wy:=by unfold keepP; rw [hb]; simp
 exact (h.prv _ (hP _ hp)).1
end
end
section
open Go.RowKit
def placeL:List ByteArray:=[⟨#[]⟩,⟨#[73,78,84,46]⟩,⟨#[69,88,84,46]⟩,⟨#[73,78,84,46,47,69,88,84,46]⟩]
def timeL:List ByteArray:=[⟨#[]⟩,⟨#[68,65,89]⟩,⟨#[78,73,71,72,84]⟩,⟨#[68,65,87,78]⟩,⟨#[68,85,83,75]⟩,⟨#[76,65,84,69,82]⟩]
def placeS (q:Nat):ByteArray:=placeL.getD q ⟨#[]⟩
def timeS (q:Nat):ByteArray:=timeL.getD q ⟨#[]⟩
theorem placeS_sz:∀ q,(placeS q).size ≤ 9
 | 0=>by decide
 | 1=>by decide
 | 2=>by decide
 | 3=>by decide
 | q + 4=>by show (⟨#[]⟩:ByteArray).size ≤ 9; decide
theorem timeS_sz:∀ q,(timeS q).size ≤ 9
 | 0=>by decide
 | 1=>by decide
 | 2=>by decide
 | 3=>by decide
 | 4=>by decide
 | 5=>by decide
 | q + 6=>by show (⟨#[]⟩:ByteArray).size ≤ 9; decide
def headS (x:Scene):ByteArray:=if x.no = ⟨#[]⟩ then placeS x.place.toNat ++ ⟨#[32]⟩ ++ x.set ++ ⟨#[32,45,32]⟩ ++ timeS x.time.toNat else x.no ++ ⟨#[32]⟩ ++ (placeS x.place.toNat ++ ⟨#[32]⟩ ++ x.set ++ ⟨#[32,45,32]⟩ ++ timeS x.time.toNat)
theorem headS_sz (x:Scene):(headS x).size ≤ x.no.size + x.set.size + 23:=by
 have h1:=placeS_sz x.place.toNat
 have h2:=timeS_sz x.time.toNat
 have z1:(⟨#[32]⟩:ByteArray).size = 1:=rfl
 have z2:(⟨#[32,45,32]⟩:ByteArray).size = 3:=rfl
 unfold headS
 split <;> simp only [ByteArray.size_append,z1,z2] <;> omega
def hRest (line:ByteArray):ByteArray:=if cutF line 32 = true ∧ numB (cutA line 32) = true then cutB line 32 else line
def hR2 (line:ByteArray):ByteArray:=cutB (hRest line) 32
def hK (r:ByteArray):Int:=Lib.lastIndex r.data.toList (⟨#[32,45,32]⟩:ByteArray).data.toList
end
section
open Go.RowKit
abbrev capsS:ByteArray:=⟨#[65,66,67,68,69,70,71,72,73,74,75,76,77,78,79,80,81,82,83,84,85,86,87,88,89,90]⟩
abbrev setSS:ByteArray:=⟨#[65,66,67,68,69,70,71,72,73,74,75,76,77,78,79,80,81,82,83,84,85,86,87,88,89,90,48,49,50,51,52,53,54,55,56,57,32,39,46,45,47]⟩
theorem set_ascii:(setSS.data.toList.all fun b=>decide (b.toNat < 128)) = true:=by decide +kernel
theorem caps_ascii:(capsS.data.toList.all fun b=>decide (b.toNat < 128)) = true:=by decide +kernel
theorem set_size:setSS.size ≤ 1000:=by decide +kernel
theorem caps_size:capsS.size ≤ 1000:=by decide +kernel
theorem set_made (s:ByteArray):allB (setSS.data.toList.contains ·) s = allB (proC (⟨#[39,46,45,47]⟩:ByteArray).data.toList) s:=allB_congr (by decide +kernel) s
theorem cap_first {s:ByteArray} (h:0 < s.size):allB (capsS.data.toList.contains ·) (s.extract 0 1) = capB s[0]:=by
 have hc:∀ c,capsS.data.toList.contains c = capB c:=fun c=>congrFun cap_set c
 unfold allB
 rw [extract_list]
 rcases s with ⟨⟨l⟩⟩
 cases l with
 | nil=>exact absurd h (by show ¬ 0 < 0; omega)
 | cons c r=>
  show (List.take 1 (c :: r)).all _ = capB c
  rw [show List.take 1 (c :: r) = [c] from rfl,List.all_cons,List.all_nil,Bool.and_true]
  exact hc c
theorem substr_c (s sub:ByteArray) (W:World) (hs:s.size ≤ 4000000000) (hm:MaxLaid W):Calls Tryz.prog 87 #[.string s,.string sub] W fun e w'=>e = .returned (.bool (Lib.contains s.data.toList sub.data.toList)) ∧ w' = W:=by
 obtain ⟨⟨m,hm⟩,_⟩:=hm
 exact Tryz.strings_Contains s sub m W (by omega) hm
set_option maxRecDepth 100000 in
set_option maxHeartbeats 4000000 in
theorem SetOf_c (s:ByteArray) (w:World) (hs:s.size ≤ 1000000) (hsp:SpLaid w) (hm:MaxLaid w):Calls Tryz.prog 171 #[.string s] w fun e w'=>e = .returned (.bool (setB s)) ∧ Below w.heap.size w w':=by
 have HLO:=Lib.hid (long_c s 1 60 w (by omega))
 have HPL:=Lib.hid (plainR_c s w (by omega) hsp)
 have HM:=Lib.hid hm
 have HM1:=Lib.hid (fun W=>made_c s setSS W (by omega) set_size set_ascii)
 have HM2:=Lib.hid (fun W=>made_c (s.extract 0 1) capsS W (by rw [ByteArray.size_extract]; omega) caps_size caps_ascii)
 clear hsp hm
 have HSB:=Lib.hid (show setB s = (proB s 60 ⟨#[39,46,45,47]⟩ && !Lib.contains s.data.toList (⟨#[32,45,32]⟩:ByteArray).data.toList && !Lib.hasSuffix s.data.toList (⟨#[32,45]⟩:ByteArray).data.toList) from rfl)
 by_cases h0:s.size = 0 ∨ 60 < s.size
 ·have HR:=Lib.hid (show setB s = false by rw [HSB.out,proB_no (by rcases h0 with h | h; exact .inl h; exact .inr (.inl h))]; rfl)
  have hlo:(decide ((1:Int) ≤ s.size) && decide ((s.size:Int) ≤ 60)) = false:=by
   rcases h0 with h | h
   ·rw [decide_eq_false (by omega)]; rfl
   ·rw [decide_eq_false (p:=(s.size:Int) ≤ 60) (by omega)]; simp
  clear h0
  go_enter Tryz.func171,Tryz.ntmps171
  go_wp2_with (first | (go_at_call 55; with_reducible refine HLO.out.mono ?_; rintro e w' ⟨rfl,rfl⟩; rw [hlo]) | fail)
  go_ret
  exact ⟨ret_bool HR.out.symm,Below.refl _ _⟩
 have hlo:(decide ((1:Int) ≤ s.size) && decide ((s.size:Int) ≤ 60)) = true:=by rw [decide_eq_true (by omega),decide_eq_true (by omega)]; rfl
 have hp:0 < s.size:=by omega
 have hp1:(1:Int) ≤ s.size:=by omega
 cases hpl:plainB s with
 | false=>
  have HR:=Lib.hid (show setB s = false by rw [HSB.out,proB_no (.inr (.inr (.inr (.inl hpl))))]; rfl)
  go_enter Tryz.func171,Tryz.ntmps171
  go_wp2_with (first | (go_at_call 55; with_reducible refine HLO.out.mono ?_; rintro e w' ⟨rfl,rfl⟩; rw [hlo]) | (go_at_call 56; with_reducible refine HPL.out.mono ?_; rintro e w2 ⟨rfl,hb2⟩; rw [hpl]) | fail)
  go_ret
  exact ⟨ret_bool HR.out.symm,hb2⟩
 | true=>
 have hset:=set_made s
 cases hpc:allB (proC (⟨#[39,46,45,47]⟩:ByteArray).data.toList) s with
 | false=>
  have HR:=Lib.hid (show setB s = false by rw [HSB.out,proB_no (.inr (.inr (.inr (.inr hpc))))]; rfl)
  rw [hpc] at hset
  go_enter Tryz.func171,Tryz.ntmps171
  go_wp2_with (first | (go_at_call 55; with_reducible refine HLO.out.mono ?_; rintro e w' ⟨rfl,rfl⟩; rw [hlo]) | (go_at_call 56; with_reducible refine HPL.out.mono ?_; rintro e w2 ⟨rfl,hb2⟩; rw [hpl]) | (go_at_call 82; with_reducible refine (HM1.out w2).mono ?_; rintro e w3 ⟨rfl,hb3⟩; rw [hset]) | fail)
  go_ret
  exact ⟨ret_bool HR.out.symm,hb2.trans (hb3.mono hb2.size)⟩
 | true=>
 rw [hpc] at hset
 have hcf:=cap_first hp
 have hex:(s.extract 0 1).size ≤ 1000000:=by rw [ByteArray.size_extract]; omega
 cases hcp:capB s[0] with
 | false=>
  have HR:=Lib.hid (show setB s = false by rw [HSB.out,proB_no (.inr (.inr (.inl ⟨hp,hcp⟩)))]; rfl)
  rw [hcp] at hcf
  go_enter Tryz.func171,Tryz.ntmps171
  go_wp2_with (first | (go_at_call 55; with_reducible refine HLO.out.mono ?_; rintro e w' ⟨rfl,rfl⟩; rw [hlo]) | (go_at_call 56; with_reducible refine HPL.out.mono ?_; rintro e w2 ⟨rfl,hb2⟩; rw [hpl]) | (go_at_call 82; with_reducible refine (HM1.out w2).mono ?_; rintro e w3 ⟨rfl,hb3⟩; rw [hset]) | (go_at_call 82; with_reducible refine (HM2.out w3).mono ?_; rintro e w4 ⟨rfl,hb4⟩; rw [hcf]) | fail)
  go_ret
  exact ⟨ret_bool HR.out.symm,(hb2.trans (hb3.mono hb2.size)).trans (hb4.mono (hb2.trans (hb3.mono hb2.size)).size)⟩
 | true=>
 rw [hcp] at hcf
 have HR:=Lib.hid (show setB s = (!Lib.contains s.data.toList (⟨#[32,45,32]⟩:ByteArray).data.toList && !Lib.hasSuffix s.data.toList (⟨#[32,45]⟩:ByteArray).data.toList) by rw [HSB.out,proB_yes hp (by omega) hcp hpl hpc]; rfl)
 have HSU:=Lib.hid (fun W=>Tryz.strings_HasSuffix s ⟨#[32,45]⟩ W (by omega))
 have HCO:=Lib.hid (fun (W:World) (hb:Below w.heap.size w W)=>substr_c s ⟨#[32,45,32]⟩ W (by omega) (max_below HM.out hb (Nat.le_refl _)))
 generalize Lib.contains s.data.toList (⟨#[32,45,32]⟩:ByteArray).data.toList = p2 at *
 generalize Lib.hasSuffix s.data.toList (⟨#[32,45]⟩:ByteArray).data.toList = p3 at *
 clear hpc hcp HSB
 go_enter Tryz.func171,Tryz.ntmps171
 cases p2
 all_goals
  go_wp2_with (first | (go_at_call 55; with_reducible refine HLO.out.mono ?_; rintro e w' ⟨rfl,rfl⟩; rw [hlo]) | (go_at_call 56; with_reducible refine HPL.out.mono ?_; rintro e w2 ⟨rfl,hb2⟩; rw [hpl]) | (go_at_call 82; with_reducible refine (HM1.out w2).mono ?_; rintro e w3 ⟨rfl,hb3⟩; rw [hset]) | (go_at_call 82; with_reducible refine (HM2.out w3).mono ?_; rintro e w4 ⟨rfl,hb4⟩; rw [hcf]; have hb5:Below w.heap.size w w4:=(hb2.trans (hb3.mono hb2.size)).trans (hb4.mono (hb2.trans (hb3.mono hb2.size)).size)) | (go_at_call 87; with_reducible refine (HCO.out w4 hb5).mono ?_; rintro e w' ⟨rfl,rfl⟩) | (go_at_call 83; with_reducible refine (HSU.out _).mono ?_; rintro e w' ⟨rfl,rfl⟩) | fail)
  go_ret
  exact ⟨ret_bool (by rw [HR.out]; simp),by assumption⟩
end
section
open Go.RowKit
theorem sp_lt {w:World} (h:SpLaid w):0 < w.heap.size:=by
 unfold SpLaid Lib.TabIs World.var? at h
 rw [show Tryz.prog.globalNamed "strings.asciiSpace" = some 0 by kernel_rfl] at h
 simp only [Option.bind_some] at h
 rcases Nat.lt_or_ge 0 w.heap.size with h' | h'
 ·exact h'
 ·simp [Array.getElem?_eq_none h'] at h
theorem sp_block {w w':World} (h:SpLaid w) (hk:w'.heap[0]? = w.heap[0]?):SpLaid w':=by
 unfold SpLaid Lib.TabIs World.var? at *
 rw [show Tryz.prog.globalNamed "strings.asciiSpace" = some 0 by kernel_rfl] at *
 simp only [Option.bind_some] at *
 rw [hk]; exact h
theorem sp_below {w w':World} {B:Nat} (h:SpLaid w) (hb:Below B w w') (hB:w.heap.size ≤ B):SpLaid w':=sp_block h (hb.block _ (by have:=sp_lt h; omega))
def headE (x:Scene):Int:=
 if ¬ x.no = ⟨#[]⟩ ∧ numB x.no = false then 5
 else if x.place < 1 ∨ 3 < x.place ∨ x.time < 1 ∨ 5 < x.time then 4
 else if setB x.set = false then 3 else 0
def HeP (x:Scene) (w:World) (e:Ending) (w':World):Prop:=e = .returned (.int .i64 (headE x)) ∧ Below w.heap.size w w'
theorem HeP.mk {x:Scene} {q:Int} {w w':World} (h:headE x = q) (hb:Below w.heap.size w w'):HeP x w (.returned (.int .i64 q)) w':=⟨by rw [h],hb⟩
set_option maxRecDepth 100000 in
set_option maxHeartbeats 4000000 in
theorem headFault_c (x:Scene) (A:Option Addr) (n c:Nat) (w:World) (hn:x.no.size ≤ 1000000) (hs:x.set.size ≤ 1000000) (hsp:SpLaid w) (hm:MaxLaid w) :
  Calls Tryz.prog 113 #[.agg #[.string x.no,.int .i64 x.place,.string x.set,.int .i64 x.time,.slice A n c]] w (HeP x w):=by
 have HSP:=Lib.hid hsp
 have HM:=Lib.hid hm
 have HB:=Lib.hid ((Below.refl w.heap.size w).alloc (Nat.le_refl _) (.cells #[.string x.no,.int .i64 x.place,.string x.set,.int .i64 x.time,.slice A n c] 46))
 have HSO:=Lib.hid (fun (W:World) (hb:Below w.heap.size w W)=>SetOf_c x.set W hs (sp_below HSP.out hb (Nat.le_refl _)) (max_below HM.out hb (Nat.le_refl _)))
 have HNU:=Lib.hid (NumberOf_c x.no (w.alloc (.cells #[.string x.no,.int .i64 x.place,.string x.set,.int .i64 x.time,.slice A n c] 46)) (by omega))
 have HY:=Lib.hid (fun (W:World) (hb:Below (w.alloc (.cells #[.string x.no,.int .i64 x.place,.string x.set,.int .i64 x.time,.slice A n c] 46)).heap.size (w.alloc (.cells #[.string x.no,.int .i64 x.place,.string x.set,.int .i64 x.time,.slice A n c] 46)) W)=>show W.cell? ⟨w.heap.size,0,none⟩ = some (.string x.no) ∧ W.cell? ⟨w.heap.size,1,none⟩ = some (.int .i64 x.place) ∧ W.cell? ⟨w.heap.size,2,none⟩ = some (.string x.set) ∧ W.cell? ⟨w.heap.size,3,none⟩ = some (.int .i64 x.time) by
  obtain ⟨y,_⟩:=str_cells ((hb.block w.heap.size (by simp)).trans (heap_alloc_new w _))
  exact ⟨y 0,y 1,y 2,y 3⟩)
 clear hsp hm
 cases he:x.no.toList.isEmpty with
 | true=>
  have hno:x.no = ⟨#[]⟩:=(empty_iff x.no).1 he
  have HST:=Lib.hid (show headE x = if x.place < 1 ∨ 3 < x.place ∨ x.time < 1 ∨ 5 < x.time then 4 else if setB x.set = false then 3 else 0 from if_neg (fun h=>h.1 hno))
  clear hno
  go_enter Tryz.func113,Tryz.ntmps113
  by_cases q1:x.place < 1
  ·have HR:=Lib.hid (HST.out.trans (if_pos (.inl q1)))
   go_wp2
   go_ret
   exact HeP.mk HR.out HB.out
  have g1:1 ≤ x.place:=by omega
  by_cases q2:3 < x.place
  ·have HR:=Lib.hid (HST.out.trans (if_pos (.inr (.inl q2))))
   go_wp2
   go_ret
   exact HeP.mk HR.out HB.out
  have g2:x.place ≤ 3:=by omega
  by_cases q3:x.time < 1
  ·have HR:=Lib.hid (HST.out.trans (if_pos (.inr (.inr (.inl q3)))))
   go_wp2
   go_ret
   exact HeP.mk HR.out HB.out
  have g3:1 ≤ x.time:=by omega
  by_cases q4:5 < x.time
  ·have HR:=Lib.hid (HST.out.trans (if_pos (.inr (.inr (.inr q4)))))
   go_wp2
   go_ret
   exact HeP.mk HR.out HB.out
  have g4:x.time ≤ 5:=by omega
  have HS3:=Lib.hid (HST.out.trans (if_neg (by rintro (h | h | h | h) <;> omega)))
  clear q1 q2 q3 q4
  go_wp2_with fail
  with_reducible refine (HSO.out _ HB.out).mono ?_
  rintro e w5 ⟨rfl,hb5⟩
  have HB6:=Lib.hid ((HB.out).trans (hb5.mono (HB.out).size))
  clear hb5
  cases hsb:setB x.set with
  | false=>
   have HR:=Lib.hid (HS3.out.trans (if_pos hsb))
   go_wp2
   go_ret
   exact HeP.mk HR.out HB6.out
  | true=>
   have HR:=Lib.hid (HS3.out.trans (if_neg (by rw [hsb]; decide)))
   go_wp2
   go_ret
   exact HeP.mk HR.out HB6.out
 | false=>
  have hno:¬ x.no = ⟨#[]⟩:=fun h=>by rw [(empty_iff x.no).2 h] at he; cases he
  cases hnb:numB x.no with
  | false=>
   have HR:=Lib.hid (show headE x = 5 from if_pos ⟨hno,hnb⟩)
   clear hno
   go_enter Tryz.func113,Tryz.ntmps113
   go_wp2_with (first | (go_at_call 42; with_reducible refine HNU.out.mono ?_; rintro e w2 ⟨rfl,hb2⟩; rw [hnb]) | fail)
   go_ret
   exact HeP.mk HR.out (HB.out.trans (hb2.mono (by simp)))
  | true=>
   have HST:=Lib.hid (show headE x = if x.place < 1 ∨ 3 < x.place ∨ x.time < 1 ∨ 5 < x.time then 4 else if setB x.set = false then 3 else 0 from if_neg (by rintro ⟨_,h⟩; rw [hnb] at h; cases h))
   clear hno
   go_enter Tryz.func113,Tryz.ntmps113
   go_wp2_with fail
   with_reducible refine HNU.out.mono ?_
   rintro e w2 ⟨rfl,hb2⟩
   rw [hnb]
   obtain ⟨y0,y1,y2,y3⟩:=HY.out w2 hb2
   have hz2:w.heap.size < w2.heap.size:=Nat.lt_of_lt_of_le (by simp) hb2.size
   have HB2:=Lib.hid (HB.out.trans (hb2.mono (by simp)))
   clear hb2 HY HNU HB
   by_cases q1:x.place < 1
   ·have HR:=Lib.hid (HST.out.trans (if_pos (.inl q1)))
    go_wp2
    go_ret
    exact HeP.mk HR.out HB2.out
   have g1:1 ≤ x.place:=by omega
   by_cases q2:3 < x.place
   ·have HR:=Lib.hid (HST.out.trans (if_pos (.inr (.inl q2))))
    go_wp2
    go_ret
    exact HeP.mk HR.out HB2.out
   have g2:x.place ≤ 3:=by omega
   by_cases q3:x.time < 1
   ·have HR:=Lib.hid (HST.out.trans (if_pos (.inr (.inr (.inl q3)))))
    go_wp2
    go_ret
    exact HeP.mk HR.out HB2.out
   have g3:1 ≤ x.time:=by omega
   by_cases q4:5 < x.time
   ·have HR:=Lib.hid (HST.out.trans (if_pos (.inr (.inr (.inr q4)))))
    go_wp2
    go_ret
    exact HeP.mk HR.out HB2.out
   have g4:x.time ≤ 5:=by omega
   have HS3:=Lib.hid (HST.out.trans (if_neg (by rintro (h | h | h | h) <;> omega)))
   clear q1 q2 q3 q4
   go_wp2_with fail
   with_reducible refine (HSO.out _ HB2.out).mono ?_
   rintro e w5 ⟨rfl,hb5⟩
   have HB6:=Lib.hid ((HB2.out).trans (hb5.mono (HB2.out).size))
   clear hb5
   cases hsb:setB x.set with
   | false=>
    have HR:=Lib.hid (HS3.out.trans (if_pos hsb))
    go_wp2
    go_ret
    exact HeP.mk HR.out HB6.out
   | true=>
    have HR:=Lib.hid (HS3.out.trans (if_neg (by rw [hsb]; decide)))
    go_wp2
    go_ret
    exact HeP.mk HR.out HB6.out
end
section
open Go.RowKit
def paraRE (before:Int) (p:Para):Int:=
 if p.kind < 1 ∨ 5 < p.kind then 4
 else if p.text.size = 0 ∨ plainB p.text = false then 3
 else if (if p.kind = 3 then 200 else 2000) < p.text.size then 2
 else if p.kind = 2 ∧ nameB p.text = false then 5
 else if p.kind = 3 ∧ brB p.text = true then 3
 else if p.kind = 5 ∧ turnB p.text = false then 3
 else if p.kind = 3 ∧ ¬ before = 2 ∧ ¬ before = 4 then 7
 else if p.kind = 4 ∧ (before = 1 ∨ before = 5 ∨ before = 0) then 7
 else if (before = 2 ∨ before = 3) ∧ ¬ p.kind = 3 ∧ ¬ p.kind = 4 then 7 else 0
def parasRE:Int → List Para → Int
 | last,[]=>if last = 2 ∨ last = 3 then 7 else 0
 | last,p :: r=>if ¬ paraRE last p = 0 then paraRE last p else parasRE p.kind r
theorem paraE_kind {p:Para} (h:paraE p = 0):1 ≤ p.kind ∧ p.kind ≤ 5:=by
 unfold paraE at h
 split at h
 ·omega
 ·omega
theorem follows_iff {kind last:Int} (hk:1 ≤ kind ∧ kind ≤ 5) (hl:0 ≤ last ∧ last ≤ 5):followsB kind last = false ↔ (kind = 3 ∧ ¬ last = 2 ∧ ¬ last = 4) ∨ (kind = 4 ∧ (last = 1 ∨ last = 5 ∨ last = 0)) ∨ ((last = 2 ∨ last = 3) ∧ ¬ kind = 3 ∧ ¬ kind = 4):=by
 obtain ⟨a,rfl⟩:=Int.eq_ofNat_of_zero_le (show 0 ≤ kind by omega)
 obtain ⟨b,rfl⟩:=Int.eq_ofNat_of_zero_le hl.1
 have ha:a = 1 ∨ a = 2 ∨ a = 3 ∨ a = 4 ∨ a = 5:=by omega
 have hb:b = 0 ∨ b = 1 ∨ b = 2 ∨ b = 3 ∨ b = 4 ∨ b = 5:=by omega
 rcases ha with rfl | rfl | rfl | rfl | rfl <;> rcases hb with rfl | rfl | rfl | rfl | rfl | rfl <;> decide
theorem paraRE_eq (p:Para) (last:Int) (hl:0 ≤ last ∧ last ≤ 5):paraRE last p = if ¬ paraE p = 0 then paraE p else if followsB p.kind last = false then 7 else 0:=by
 by_cases h0:paraE p = 0
 ·rw [if_neg (by simp [h0])]
  have hk:=paraE_kind h0
  have hf:=follows_iff hk hl
  unfold paraE at h0
  unfold paraRE
  by_cases c1:p.kind < 1 ∨ 5 < p.kind
  ·omega
  rw [if_neg c1] at h0 ⊢
  by_cases c2:p.text.size = 0 ∨ plainB p.text = false
  ·rw [if_pos c2] at h0; omega
  rw [if_neg c2] at h0 ⊢
  by_cases c3:2000 < p.text.size ∨ (p.kind = 3 ∧ 200 < p.text.size)
  ·rw [if_pos c3] at h0; omega
  rw [if_neg c3] at h0
  rw [if_neg (by split <;> omega)]
  by_cases c4:p.kind = 2 ∧ nameB p.text = false
  ·rw [if_pos c4] at h0; omega
  rw [if_neg c4] at h0 ⊢
  by_cases c5:p.kind = 3 ∧ brB p.text = true
  ·rw [if_pos c5] at h0; omega
  rw [if_neg c5] at h0 ⊢
  by_cases c6:p.kind = 5 ∧ turnB p.text = false
  ·rw [if_pos c6] at h0; omega
  rw [if_neg c6]
  by_cases d1:p.kind = 3 ∧ ¬ last = 2 ∧ ¬ last = 4
  ·rw [if_pos d1,if_pos (hf.2 (.inl d1))]
  rw [if_neg d1]
  by_cases d2:p.kind = 4 ∧ (last = 1 ∨ last = 5 ∨ last = 0)
  ·rw [if_pos d2,if_pos (hf.2 (.inr (.inl d2)))]
  rw [if_neg d2]
  by_cases d3:(last = 2 ∨ last = 3) ∧ ¬ p.kind = 3 ∧ ¬ p.kind = 4
  ·rw [if_pos d3,if_pos (hf.2 (.inr (.inr d3)))]
  ·rw [if_neg d3,if_neg (fun h=>by
    rcases hf.1 h with h | h | h
    ·exact d1 h
    ·exact d2 h
    ·exact d3 h)]
 ·rw [if_pos h0]
  unfold paraE at h0 ⊢
  unfold paraRE
  by_cases c1:p.kind < 1 ∨ 5 < p.kind
  ·rw [if_pos c1,if_pos c1]
  rw [if_neg c1] at h0 ⊢
  rw [if_neg c1]
  by_cases c2:p.text.size = 0 ∨ plainB p.text = false
  ·rw [if_pos c2,if_pos c2]
  rw [if_neg c2] at h0 ⊢
  rw [if_neg c2]
  by_cases c3:2000 < p.text.size ∨ (p.kind = 3 ∧ 200 < p.text.size)
  ·rw [if_pos c3,if_pos (by split <;> omega)]
  rw [if_neg c3] at h0 ⊢
  rw [if_neg (by split <;> omega)]
  by_cases c4:p.kind = 2 ∧ nameB p.text = false
  ·rw [if_pos c4,if_pos c4]
  rw [if_neg c4] at h0 ⊢
  rw [if_neg c4]
  by_cases c5:p.kind = 3 ∧ brB p.text = true
  ·rw [if_pos c5,if_pos c5]
  rw [if_neg c5] at h0 ⊢
  rw [if_neg c5]
  by_cases c6:p.kind = 5 ∧ turnB p.text = false
  ·rw [if_pos c6,if_pos c6]
  ·rw [if_neg c6] at h0
   exact absurd rfl h0
theorem parasRE_eq (l:List Para):∀ last:Int,0 ≤ last ∧ last ≤ 5 → parasRE last l = parasE last l:=by
 induction l with
 | nil=>intro last _; rfl
 | cons p r ih=>
  intro last hl
  rw [parasRE,parasE,paraRE_eq p last hl]
  by_cases h0:paraE p = 0
  ·have hk:=paraE_kind h0
   rw [if_neg (show ¬ ¬ paraE p = 0 from fun h=>h h0),if_neg (show ¬ ¬ paraE p = 0 from fun h=>h h0)]
   by_cases hf:followsB p.kind last = false
   ·rw [if_pos hf,if_pos hf,if_pos (by decide)]
   ·rw [if_neg hf,if_neg hf,if_neg (by decide)]
    exact ih p.kind (by omega)
  ·rw [if_pos h0,if_pos h0,if_pos h0]
def sceneRE (k:Nat) (seen:List ByteArray) (x:Scene):Int:=
 if headE x = 5 then 5
 else if ¬ x.no = ⟨#[]⟩ ∧ (seen.any fun y=>decide (y = x.no)) = true then 6
 else if headE x = 4 then 4
 else if k = 0 ∧ x.time = 5 then 7
 else if ¬ headE x = 0 then headE x
 else parasRE 0 x.paras
theorem sceneRE_eq (k:Nat) (seen:List ByteArray) (x:Scene) (r:List Scene):(if ¬ sceneRE k seen x = 0 then sceneRE k seen x else scenesE (k + 1) (x.no :: seen) r) = scenesE k seen (x :: r):=by
 rw [scenesE]
 unfold sceneRE headE sceneE
 rw [parasRE_eq _ 0 (by omega)]
 by_cases c1:¬ x.no = ⟨#[]⟩ ∧ numB x.no = false
 ·rw [if_pos c1,if_pos c1,if_pos rfl,if_pos (by decide)]
 ·rw [if_neg c1,if_neg c1]
  by_cases c3:x.place < 1 ∨ 3 < x.place ∨ x.time < 1 ∨ 5 < x.time
  ·simp only [if_pos c3]
   by_cases c2:¬ x.no = ⟨#[]⟩ ∧ (seen.any fun y=>decide (y = x.no)) = true
   ·simp only [if_pos c2]; simp
   ·simp only [if_neg c2]; simp
  ·simp only [if_neg c3]
   by_cases c2:¬ x.no = ⟨#[]⟩ ∧ (seen.any fun y=>decide (y = x.no)) = true
   ·simp only [if_pos c2]
    by_cases c4:setB x.set = false
    ·simp only [if_pos c4]; simp
    ·simp only [if_neg c4]; simp
   ·simp only [if_neg c2]
    by_cases c5:k = 0 ∧ x.time = 5
    ·simp only [if_pos c5]
     by_cases c4:setB x.set = false
     ·simp only [if_pos c4]; simp
     ·simp only [if_neg c4]; simp
    ·simp only [if_neg c5]
     by_cases c4:setB x.set = false
     ·simp only [if_pos c4]; simp
     ·simp only [if_neg c4]; simp
end
section
open Go.RowKit
theorem mem_mod {α:Type} {l:List α} {f:α → α} {k:Nat} {y:α} (h:y ∈ l.modify k f):y ∈ l ∨ ∃ x ∈ l,y = f x:=by
 obtain ⟨i,hi⟩:=List.mem_iff_getElem?.1 h
 rw [List.getElem?_modify] at hi
 cases hli:l[i]? with
 | none=>rw [hli] at hi; simp at hi
 | some x=>
  rw [hli] at hi
  have hm:x ∈ l:=List.mem_iff_getElem?.2 ⟨i,hli⟩
  simp at hi
  by_cases e:k = i
  ·rw [if_pos e] at hi; exact .inr ⟨x,hm,hi.symm⟩
  ·rw [if_neg e] at hi; exact .inl (hi ▸ hm)
def okS (x:Scene):Prop:=(x.no = ⟨#[]⟩ ∨ numB x.no = true) ∧ (1 ≤ x.place ∧ x.place ≤ 3) ∧ (1 ≤ x.time ∧ x.time ≤ 5) ∧ setB x.set = true ∧ parasE 0 x.paras = 0
theorem parasE_ok:∀ (l:List Para) (last:Int),parasE last l = 0 → ∀ p ∈ l,paraE p = 0
 | [],_,_,p,hp=>by cases hp
 | q :: r,last,h,p,hp=>by
  rw [parasE] at h
  by_cases h1:paraE q = 0
  ·rw [if_neg (by rw [h1]; decide)] at h
   split at h
   ·omega
   ·rcases List.mem_cons.1 hp with rfl | hp
    ·exact h1
    ·exact parasE_ok r _ h p hp
  ·rw [if_pos h1] at h; exact absurd h h1
theorem scenesE_ok:∀ (l:List Scene) (k:Nat) (seen:List ByteArray),scenesE k seen l = 0 → ∀ x ∈ l,okS x
 | [],_,_,_,x,hx=>by cases hx
 | y :: r,k,seen,h,x,hx=>by
  rw [scenesE] at h
  split at h
  ·omega
  ·rename_i c1
   split at h
   ·omega
   ·split at h
    ·omega
    ·rename_i c3
     split at h
     ·omega
     ·by_cases h0:sceneE y = 0
      ·rw [if_neg (by rw [h0]; decide)] at h
       rcases List.mem_cons.1 hx with rfl | hx
       ·unfold sceneE at h0
        split at h0
        ·omega
        ·rename_i c5
         refine ⟨?_,by omega,by omega,by simpa using c5,h0⟩
         by_cases hn:x.no = ⟨#[]⟩
         ·exact .inl hn
         ·refine .inr ?_
          cases hb:numB x.no with
          | true=>rfl
          | false=>exact absurd ⟨hn,hb⟩ c1
       ·exact scenesE_ok r _ _ h x hx
      ·rw [if_pos h0] at h; exact absurd h h0
theorem paraE_sz {p:Para} (h:paraE p = 0):0 < p.text.size ∧ p.text.size ≤ 2000 ∧ plainB p.text = true ∧ 1 ≤ p.kind ∧ p.kind ≤ 5:=by
 unfold paraE at h
 split at h
 ·omega
 ·split at h
  ·omega
  ·rename_i c2
   split at h
   ·omega
   ·refine ⟨by omega,by omega,?_,by omega,by omega⟩
    cases hb:plainB p.text with
    | true=>rfl
    | false=>exact absurd (.inr hb) c2
theorem setB_sz {s:ByteArray} (h:setB s = true):1 ≤ s.size ∧ s.size ≤ 60:=by
 unfold setB proB at h
 simp only [Bool.and_eq_true,decide_eq_true_eq] at h
 exact ⟨h.1.1.1.1.1.1,h.1.1.1.1.1.2⟩
structure OkX (x:Script):Prop where
 t1:1 ≤ x.title.size
 t2:x.title.size ≤ 60
 tp:plainB x.title = true
 sn:x.scenes.length ≤ 300
 pn:parasN x.scenes ≤ 4000
 sc:∀ y ∈ x.scenes,okS y
theorem chkE_ok {x:Script} (h:chkE x = 0):OkX x:=by
 unfold chkE at h
 split at h
 ·omega
 ·rename_i c1
  split at h
  ·omega
  ·refine ⟨by omega,by omega,?_,by omega,by omega,scenesE_ok _ _ _ h⟩
   cases hb:plainB x.title with
   | true=>rfl
   | false=>exact absurd (.inr (.inr hb)) c1
end
section
open Go.RowKit
end
section
open Go.RowKit
theorem cut_back {s:ByteArray} {c:UInt8} (h:cutF s c = true):s = cutA s c ++ ⟨#[c]⟩ ++ cutB s c:=by
 unfold cutF at h
 have hlt:cutI s c < s.size:=of_decide_eq_true h
 have hl:cutI s c < s.data.toList.length:=by simpa using hlt
 have hc:s.data.toList[cutI s c] = c:=by have:=List.findIdx_getElem (p:=(· == c)) (w:=hl); exact eq_of_beq this
 apply ba_ext
 unfold cutA cutB
 simp only [ByteArray.data_append,Array.toList_append,extract_list',Nat.sub_zero,List.drop_zero]
 rw [List.take_of_length_le (l:=s.data.toList.drop _) (by rw [List.length_drop]; simp)]
 have h2:=List.drop_eq_getElem_cons hl
 rw [hc] at h2
 rw [List.append_assoc,show (⟨#[c]⟩:ByteArray).data.toList ++ s.data.toList.drop (cutI s c + 1) = s.data.toList.drop (cutI s c) from h2.symm,List.take_append_drop]
end
section
open Go.RowKit
def segsT (c:UInt8):List UInt8 → List UInt8 → List (List UInt8)
 | [],cur=>[cur]
 | b :: l,cur=>if b = c then cur :: segsT c l [] else segsT c l (cur ++ [b])
theorem segsT_next {c:UInt8} (b:List UInt8):∀ (a cur:List UInt8),(∀ x ∈ a,x ≠ c) → segsT c (a ++ c :: b) cur = (cur ++ a) :: segsT c b []
 | [],cur,_=>by simp [segsT]
 | x :: a,cur,h=>by
  have hx:¬ x = c:=h x (by simp)
  rw [List.cons_append,segsT,if_neg hx,segsT_next b a _ (fun y hy=>h y (by simp [hy]))]
  simp
theorem segsT_last {c:UInt8}:∀ (a cur:List UInt8),(∀ x ∈ a,x ≠ c) → segsT c a cur = [cur ++ a]
 | [],cur,_=>by simp [segsT]
 | x :: a,cur,h=>by
  have hx:¬ x = c:=h x (by simp)
  rw [segsT,if_neg hx,segsT_last a _ (fun y hy=>h y (by simp [hy]))]
  simp
theorem wordsA_segsT:∀ (l cur:List UInt8),wordsA l cur = (segsT 32 l cur).filter (fun w=>decide (w ≠ []))
 | [],cur=>by
  by_cases h:cur = [] <;> simp [wordsA,segsT,h]
 | x :: l,cur=>by
  rw [wordsA,segsT]
  by_cases hx:x = 32
  ·rw [if_pos hx,if_pos hx,wordsA_segsT l []]
   by_cases h:cur = []
   ·rw [if_pos h]; simp [h]
   ·rw [if_neg h]; simp [h]
  ·rw [if_neg hx,if_neg hx,wordsA_segsT l _]
def cutsB (s:ByteArray) (c:UInt8):List ByteArray:=(segsT c s.data.toList []).map fun l=>⟨l.toArray⟩
theorem cutI_free {s:ByteArray} {c:UInt8} (h:¬ cutI s c < s.size):∀ x ∈ s.data.toList,x ≠ c:=by
 intro x hx e
 subst e
 have h4:cutI s x < s.data.toList.length:=List.findIdx_lt_length_of_exists ⟨x,hx,by simp⟩
 exact h (by simpa using h4)
theorem cutA_free (s:ByteArray) (c:UInt8):∀ x ∈ (cutA s c).data.toList,x ≠ c:=by
 intro x hx e
 subst e
 unfold cutA at hx
 rw [extract_list',List.drop_zero,Nat.sub_zero] at hx
 obtain ⟨i,hi,he⟩:=List.mem_iff_getElem.1 hx
 rw [List.length_take] at hi
 rw [List.getElem_take] at he
 have:=List.not_of_lt_findIdx (p:=(· == x)) (xs:=s.data.toList) (show i < cutI s x by omega)
 simp [he] at this
theorem cutsB_no {s:ByteArray} {c:UInt8} (h:¬ cutI s c < s.size):cutsB s c = [s]:=by
 unfold cutsB
 rw [segsT_last _ _ (cutI_free h)]
 rfl
theorem cutsB_yes {s:ByteArray} {c:UInt8} (h:cutI s c < s.size):cutsB s c = cutA s c :: cutsB (cutB s c) c:=by
 have e:s.data.toList = (cutA s c).data.toList ++ c :: (cutB s c).data.toList:=by
  conv=>lhs; rw [cut_back (show cutF s c = true by unfold cutF; exact decide_eq_true h)]
  simp
 unfold cutsB
 rw [e,segsT_next _ _ _ (cutA_free s c)]
 rfl
theorem segsT_sum (c:UInt8):∀ (l cur x:List UInt8),x ∈ segsT c l cur → x.length ≤ cur.length + l.length
 | [],cur,x,h=>by simp [segsT] at h; simp [h]
 | b :: l,cur,x,h=>by
  rw [segsT] at h
  split at h
  ·rcases List.mem_cons.1 h with rfl | h
   ·simp
   ·have:=segsT_sum c l [] x h
    simp at this ⊢; omega
  ·have:=segsT_sum c l _ x h
   simp at this ⊢; omega
theorem cutsB_size {s x:ByteArray} {c:UInt8} (h:x ∈ cutsB s c):x.size ≤ s.size:=by
 obtain ⟨l,hl,rfl⟩:=List.mem_map.1 h
 have:=segsT_sum c _ _ _ hl
 show l.toArray.size ≤ s.size
 simpa using this
end
section
open Go.RowKit Go.Shelf
attribute [local go_sem] Oper.semAt_some
def leftC (c:Nat) (W:World):Nat:=match W.cell? ⟨c,0,none⟩ with | some (.string s)=>s.size | _=>0
theorem leftC_eq {c:Nat} {W:World} {t:TypeId} {s:ByteArray} (h:Boxed W c t (.string s)):leftC c W = s.size:=by unfold leftC; rw [h.cell]
theorem boxKeep {W W':World} {B c:Nat} {t:TypeId} {v:Value} (h:Boxed W B t v) (hk:KeepC c W W') (h1:c ≤ B) (h2:B < c + 3):Boxed W' B t v:=(hk B h1 h2).trans h
theorem boxPut {W:World} {B B':Nat} {t:TypeId} {v x:Value} (h:Boxed W B t v) (hne:B ≠ B'):Boxed (W.setCell ⟨B',0,none⟩ x) B t v:=h.kept (grownBy_setCell' W _ x) (fun e=>by cases e; exact hne rfl)
theorem boxBelow {n₀:Nat} {W W':World} {B:Nat} {t:TypeId} {v:Value} (h:Boxed W B t v) (hb:Below n₀ W W') (hl:B < n₀):Boxed W' B t v:=(hb.block B hl).trans h
set_option maxRecDepth 100000 in
set_option maxHeartbeats 1000000 in
theorem splitSeq1_c (n:Nat) (hn:1 ≤ n) (s:ByteArray) (b:UInt8) (hs:s.size ≤ 4000000000) (c:Nat) (ts ti:TypeId) (w:World)
  (h1:Boxed w c ts (.string s)) (h2:Boxed w (c + 1) ts (.string ⟨#[b]⟩)) (h3:Boxed w (c + 2) ti (.int .i64 0)) :
  SeqC Fence.wide n Tryz.prog 231 #[.pointer (some ⟨c + 1,0,none⟩),.pointer (some ⟨c,0,none⟩),.pointer (some ⟨c + 2,0,none⟩)] Value.string c (cutsB s b) w:=by
 intro l J W hW hJ hY h0
 have b1:Boxed W c ts (.string s):=boxBelow h1 hW h1.lt
 have b2:Boxed W (c + 1) ts (.string ⟨#[b]⟩):=boxBelow h2 hW h2.lt
 have b3:Boxed W (c + 2) ti (.int .i64 0):=boxBelow h3 hW h3.lt
 have hsep:(⟨#[b]⟩:ByteArray).size = 1:=rfl
 refine callsIn_of_wp Tryz.func231 rfl trivial ?_ rfl
 simp only [Tryz.ntmps231,List.size_toArray,List.length_cons,List.length_nil,Nat.reduceAdd,Nat.reduceSub,Array.replicate_succ,Array.replicate_zero,List.push_toArray,List.append_toArray,List.nil_append,List.cons_append]
 have c2:=b2.cell
 gi_wp2
 gi_loopw [] (fun wr=>∃ (pre:List ByteArray) (r:ByteArray),cutsB s b = pre ++ cutsB r b ∧ r.size ≤ s.size ∧ Boxed wr c ts (.string r) ∧ Boxed wr (c + 1) ts (.string ⟨#[b]⟩) ∧ Boxed wr (c + 2) ti (.int .i64 0) ∧ J pre wr)
  (fun wr=>leftC c wr)
 case atStart=>
  exact ⟨[],s,rfl,Nat.le_refl _,b1,b2,b3,h0⟩
 case round=>
  obtain ⟨pre,r,hx,hr,d1,d2,d3,hJr⟩:=hrel
  have e1:=d1.cell
  have e2:=d2.cell
  have e3:=d3.cell
  by_cases hcut:cutI r b < r.size
  ·have hseg:=cutsB_yes hcut
   have hi:Lib.indexByte r.data.toList b = (cutI r b:Int):=idxB_yes hcut
   obtain ⟨fn,tmps,assign,body,hy,hR⟩:=hY pre (cutA r b) wr hJr ⟨cutsB (cutB r b) b,by rw [hx,hseg]; simp⟩
   unfold cutA at hy
   gi_wp2_with (refine ⟨trivial,?_⟩; gi_at_call 148; refine (callsIn_wide.2 (Tryz.strings_Index_one r b wr)).mono ?_; rintro e w' ⟨rfl,rfl⟩; rw [hi])
   refine hR.mono ?_
   rintro e W3 ⟨rfl,hJ3,hk3⟩
   have g1:=boxKeep d1 hk3 (by omega) (by omega)
   have g2:=boxKeep d2 hk3 (by omega) (by omega)
   have g3:=boxKeep d3 hk3 (by omega) (by omega)
   have k1:=g1.cell
   have k2:=g2.cell
   have k3:=g3.cell
   have kf:=g1.frozen
   gi_wp2
   have hb':cutB r b = r.extract (cutI r b + 1) r.size:=rfl
   rw [← hb']
   have z1:=g1.set (.string (cutB r b))
   refine ⟨⟨pre ++ [cutA r b],cutB r b,by rw [hx,hseg]; simp,Nat.le_trans (cutB_size r b) hr,z1,boxPut g2 (by omega),boxPut g3 (by omega),hJ _ _ _ hJ3 (grownBy_setCell' W3 c _)⟩,?_⟩
   rw [leftC_eq z1,leftC_eq d1]
   unfold cutB
   rw [ByteArray.size_extract]
   omega
  ·have hseg:=cutsB_no hcut
   have hi:Lib.indexByte r.data.toList b = -1:=idxB_no hcut
   obtain ⟨fn,tmps,assign,body,hy,hR⟩:=hY pre r wr hJr (by rw [hx,hseg]; exact List.prefix_refl _)
   gi_wp2_with (refine ⟨trivial,?_⟩; gi_at_call 148; refine (callsIn_wide.2 (Tryz.strings_Index_one r b wr)).mono ?_; rintro e w' ⟨rfl,rfl⟩; rw [hi])
   refine hR.mono ?_
   rintro e W3 ⟨rfl,hJ3,hk3⟩
   gi_wp2
   go_end0
   exact ⟨⟨_,rfl⟩,by rw [hx,hseg]; exact hJ3⟩
end
section
open Go.RowKit Go.Shelf
def seqW (s sep:ByteArray) (w:World):World:=((w.alloc (.cells #[.string s] 9)).alloc (.cells #[.string sep] 9)).alloc (.cells #[.int .i64 0] 3)
def seqF (c:Nat):Value:=.func (.func 231) #[] #[.pointer (some ⟨c + 1,0,none⟩),.pointer (some ⟨c,0,none⟩),.pointer (some ⟨c + 2,0,none⟩)]
theorem splitSeq_c (s sep:ByteArray) (w:World):Calls Tryz.prog 209 #[.string s,.string sep,.int .i64 0] w fun e w'=>e = .returned (seqF w.heap.size) ∧ w' = seqW s sep w:=by
 go_enter Tryz.func209,Tryz.ntmps209
 go_wp2
 go_ret
 exact ⟨rfl,rfl⟩
theorem SplitSeq_c (s sep:ByteArray) (w:World):Calls Tryz.prog 156 #[.string s,.string sep] w fun e w'=>e = .returned (seqF w.heap.size) ∧ w' = seqW s sep w:=by
 go_enter Tryz.func156,Tryz.ntmps156
 go_wp2_with fail
 refine (splitSeq_c s sep _).mono ?_
 rintro e w1 ⟨rfl,rfl⟩
 go_wp2
 go_ret
 exact ⟨rfl,rfl⟩
theorem seqW_size (s sep:ByteArray) (w:World):(seqW s sep w).heap.size = w.heap.size + 3:=by simp [seqW]
theorem seqW_below (s sep:ByteArray) (w:World):Below w.heap.size w (seqW s sep w):=(((Below.refl _ w).alloc (Nat.le_refl _) _).alloc (by simp) _).alloc (by simp; omega) _
theorem seqW_boxes (s sep:ByteArray) (w:World):Boxed (seqW s sep w) w.heap.size 9 (.string s) ∧ Boxed (seqW s sep w) (w.heap.size + 1) 9 (.string sep) ∧ Boxed (seqW s sep w) (w.heap.size + 2) 3 (.int .i64 0):=by
 have h1:=Boxed.new w 9 (.string s)
 have h2:=Boxed.new (w.alloc (.cells #[.string s] 9)) 9 (.string sep)
 have h3:=Boxed.new ((w.alloc (.cells #[.string s] 9)).alloc (.cells #[.string sep] 9)) 3 (.int .i64 0)
 simp only [World.size_alloc] at h2 h3
 exact ⟨(h1.alloc _).alloc _,h2.alloc _,h3⟩
end
section
open Go.RowKit Go.Sort
theorem mkB_app (a b:List UInt8):mkB a ++ mkB b = mkB (a ++ b):=by
 unfold mkB
 apply ByteArray.ext
 simp
theorem mkB_size (a:List UInt8):(mkB a).size = a.length:=by
 show a.toArray.size = _
 rw [List.size_toArray]
theorem Own.rowS (w:World) (T:TypeId) (l:List ByteArray) (hl:l.length ≤ maxLen):Own strR (w.alloc (.cells (l.map Value.string).toArray T)) w.heap.size w.heap.size T l (.slice (some ⟨w.heap.size,0,none⟩) l.length l.length):=by
 refine ⟨l.map Value.string,⟨by rw [List.length_map]; show _ = _ * 1; rw [Nat.mul_one],.inr ⟨w.heap.size,l.length,(l.map Value.string).toArray,rfl,Nat.le_refl _,heap_alloc_new w _,Nat.le_refl _,hl,by simp; exact (Nat.mul_one _).symm,?_⟩⟩,by rw [List.length_map]; show _ = _ * 1; rw [Nat.mul_one],fun k x hx=>?_⟩
 ·show (l.map Value.string).take (l.length * 1) = _
  rw [Nat.mul_one,List.take_of_length_le (by rw [List.length_map]; exact Nat.le_refl _)]
 ·show ((l.map Value.string).drop (k * 1)).take 1 = [.string x]
  obtain ⟨hk,rfl⟩:=List.getElem?_eq_some_iff.1 hx
  rw [Nat.mul_one,List.drop_eq_getElem_cons (by rw [List.length_map]; exact hk),List.take_succ_cons,List.take_zero,List.getElem_map]
def wordsB (s:ByteArray):List ByteArray:=(wordsA s.data.toList []).map mkB
theorem fields_c (s:ByteArray) (w:World) (hs:s.size ≤ 4000000000) (hp:∀ x ∈ s.data.toList,prB x = true) (hsp:SpLaid w) :
  Calls Tryz.prog 112 #[.string s] w fun e w'=>∃ v,e = .returned v ∧ Below w.heap.size w w' ∧ Own strR w' w.heap.size w.heap.size 9 (wordsB s) v:=by
 have hfw:Lib.fields s.data.toList = wordsA s.data.toList []:=fields_words _ _ hp
 refine (Tryz.strings_Fields_laid s w (by omega) (fun j b hj=>by
  have h:=hp b (List.mem_of_getElem? hj)
  simp [prB] at h
  omega) hsp).mono ?_
 rintro e w' ⟨rfl,rfl⟩
 rw [hfw]
 have hwl:(wordsA s.data.toList []).length ≤ s.size:=by
  have h:=wordsA_len s.data.toList []
  simpa using h
 refine ⟨_,rfl,(Below.refl _ _).alloc (Nat.le_refl _) _,?_⟩
 unfold wordsB
 generalize wordsA s.data.toList [] = ws at *
 rw [show List.map (fun l=>Value.string (⟨l.toArray⟩:ByteArray)) ws = (ws.map mkB).map Value.string by rw [List.map_map]; rfl]
 have hlen:(ws.map mkB).length = ws.length:=List.length_map _
 rw [← hlen]
 exact Own.rowS w 9 (ws.map mkB) (by rw [hlen]; unfold maxLen; omega)
end
end Go.Proofs.YtaoobkgepcikiaaGreatDoor
