/- Texts packed: RollY, EvW, RefB, CodeR, GenD, NextA, GrowT, NcA, NcB, NcC, WdW, RefC, RefD, EvX, EvN, EvT, EvE, HeadA. -/
import Derived.Test.YtaoobkgepcikiaaGreatDoorRows
import Derived.Test.YtaoobkgepcikiaaGreatDoorSc01
import Derived.Test.YtaoobkgepcikiaaGreatDoorSc02
import Derived.Lib.LazyBuf
import Derived.RegionTactic
import Derived.Test.YtaoobkgepcikiaaGreatDoorSc04
import Derived.Test.YtaoobkgepcikiaaGreatDoorSc03
import Derived.Deep.DeepCutAuto
import Derived.Lib.ItoaLen
namespace Go.Proofs.YtaoobkgepcikiaaGreatDoor
set_option linter.unusedVariables false
section
open Go.RowKit
end
section
open Go.RowKit
end
section
open Go.RowKit
end
section
open Go.RowKit Go.Sort
end
section
open Go.RowKit Go.Sort
end
section
open Go.RowKit
section
variable {w wx wy:World} {B:Nat} {l:List UInt8}
end
end
section
open Go.RowKit
structure B2 {α β:Type} (R:Rep α) (RI:Rep β) (e eI:TypeId) (w:World) (l:List α) (v:Value) (m:List β) (u:Value) (wx:World):Prop where
 bel:Below w.heap.size w wx
 o1:Own R wx w.heap.size w.heap.size e l v
 o2:Own RI wx w.heap.size w.heap.size eI m u
 dis:Dis v u
section
variable {α β:Type} {n k:Nat} {enc:α → List Value} {hn:∀ x,(enc x).length = n} {encI:β → List Value} {hk:∀ x,(encI x).length = k} {e eI:TypeId} {w wx wy:World} {l l':List α} {v v':Value} {m m':List β} {u u':Value}
end
end
section
open Go.RowKit Go.Sort
end
section
open Go.RowKit Go.Sort
end
section
open Go.RowKit Go.Sort
def capsB (l:List UInt8):Prop:=∀ u ∈ l,65 ≤ u.toNat ∧ u.toNat ≤ 90
end
section
open Go.RowKit
end
section
open Go.RowKit
end
section
open Go.RowKit
end
section
open Go.RowKit
end
section
open Go.RowKit
end
section
open Go.RowKit
end
section
open Go.RowKit
instance:DecidableEq Ev:=fun a b=>decidable_of_iff (a.eqB b = true) Ev.eqB_iff
def MaxLaid (w:World):Prop:=(∃ m,w.cell? ⟨4,0,none⟩ = some (.int .i64 m)) ∧ 4 < w.heap.size
theorem max_below {w w':World} {B:Nat} (h:MaxLaid w) (hb:Below B w w') (hB:w.heap.size ≤ B):MaxLaid w':=by
 obtain ⟨⟨m,hm⟩,hl⟩:=h
 exact ⟨⟨m,(hb.cell (p:=⟨4,0,none⟩) (by show 4 < B; omega)).trans hm⟩,Nat.lt_of_lt_of_le hl hb.size⟩
end
section
open Go.RowKit
set_option maxHeartbeats 1600000 in
theorem Plain_c (s:ByteArray) (w:World) (hs:s.size ≤ 4000000000) (hm:MaxLaid w):Calls Tryz.prog 44 #[.string s] w fun e w'=>e = .returned (.bool (plainB s)) ∧ w = w':=by
 obtain ⟨⟨m,hm⟩,_⟩:=hm
 have HP:=Lib.hid (Tryz.strings_HasPrefix s ⟨#[32]⟩ w)
 have HS:=Lib.hid (Tryz.strings_HasSuffix s ⟨#[32]⟩ w (by omega))
 have HC:=Lib.hid (Tryz.strings_Contains s ⟨#[32,32]⟩ m w (by omega) hm)
 have HPL:=Lib.hid (show plainB s = (allB prB s && (!Lib.hasPrefix s.data.toList (⟨#[32]⟩:ByteArray).data.toList && !Lib.hasSuffix s.data.toList (⟨#[32]⟩:ByteArray).data.toList && !Lib.contains s.data.toList (⟨#[32,32]⟩:ByteArray).data.toList)) by unfold plainB; rw [plain_prog])
 clear hm
 generalize Lib.hasPrefix s.data.toList (⟨#[32]⟩:ByteArray).data.toList = p1 at *
 generalize Lib.hasSuffix s.data.toList (⟨#[32]⟩:ByteArray).data.toList = p2 at *
 generalize Lib.contains s.data.toList (⟨#[32,32]⟩:ByteArray).data.toList = p3 at *
 go_enter Tryz.func44,Tryz.ntmps44
 go_wp2
 go_loop [6] (fun i=>∃ k:Nat,k ≤ s.size ∧ i = .int .i64 k ∧ Hid (∀ x ∈ s.data.toList.take k,prB x = true)) (fun i=>s.size - (intOf i).toNat)
 case atStart=>exact ⟨0,Nat.zero_le _,rfl,by intro x hx; simp at hx⟩
 case round=>
  obtain ⟨k,hk,rfl,HN⟩:=hrel
  by_cases hlt:k < s.size
  ·have hu:s[k].toNat < 256:=s[k].toNat_lt
   by_cases hc:32 ≤ s[k].toNat ∧ s[k].toNat ≤ 126
   ·have HC:=Lib.hid (show prB s[k] = true by simp [prB,hc])
    obtain ⟨h1,h2⟩:=hc
    go_wp2
    go_round
    case rel=>exact ⟨k + 1,by omega,intNum,allB_next hlt HN.out HC.out⟩
    case measure=>simp [intOf]; omega
   ·have HC:=Lib.hid (show prB s[k] = false by simp [prB]; omega)
    have HR:=Lib.hid (show plainB s = false by rw [HPL.out,allB_no hlt HC.out]; rfl)
    by_cases h1:s[k].toNat < 32
    ·clear hc
     go_wp2
     go_ret
     exact ⟨ret_bool HR.out.symm,rfl⟩
    ·have h2:126 < s[k].toNat:=by omega
     clear hc
     go_wp2
     go_ret
     exact ⟨ret_bool HR.out.symm,rfl⟩
  ·have HA:=Lib.hid (allB_yes hlt HN.out)
   have HR:=Lib.hid (show plainB s = (!p1 && !p2 && !p3) by rw [HPL.out,HA.out]; rfl)
   cases p1 <;> cases p2
   all_goals
    go_wp2_with (first | (go_at_call 74; refine HP.out.mono ?_; rintro e w' ⟨rfl,rfl⟩) | (go_at_call 83; refine HS.out.mono ?_; rintro e w' ⟨rfl,rfl⟩) | (go_at_call 87; refine HC.out.mono ?_; rintro e w' ⟨rfl,rfl⟩) | fail)
    go_ret
    exact ⟨ret_bool (by rw [HR.out]; simp),rfl⟩
def proC (others:List UInt8) (c:UInt8):Bool:=capB c || digB c || decide (c.toNat = 32) || others.contains c
def proB (s:ByteArray) (most:Nat) (others:ByteArray):Bool:=decide (1 ≤ s.size) && decide (s.size ≤ most) && (match s.data.toList with | []=>false | c :: _=>capB c) && plainB s && allB (proC others.data.toList) s
theorem idxB_mem (set:List UInt8) (c:UInt8):c ∈ set ↔ 0 ≤ Lib.indexByte set c:=by
 have h:=idx_set set c
 cases hc:set.contains c with
 | true=>exact ⟨fun _=>h.1 hc,fun _=>by simpa using hc⟩
 | false=>exact ⟨fun hm=>by simp at hc; exact absurd hm hc,fun hx=>by have:=h.2 hc; omega⟩
theorem proB_no {s:ByteArray} {most:Nat} {others:ByteArray} (h:s.size = 0 ∨ most < s.size ∨ (∃ h:0 < s.size,capB s[0] = false) ∨ plainB s = false ∨ allB (proC others.data.toList) s = false):proB s most others = false:=by
 unfold proB
 rcases h with h | h | ⟨h0,h⟩ | h | h
 ·simp [h]
 ·have:¬ s.size ≤ most:=by omega
  simp [this]
 ·rcases s with ⟨⟨l⟩⟩
  cases l with
  | nil=>simp
  | cons c r=>
   have h2:capB c = false:=h
   simp [h2]
 ·simp [h]
 ·simp [h]
theorem proB_yes {s:ByteArray} {most:Nat} {others:ByteArray} (h0:0 < s.size) (h1:s.size ≤ most) (h2:capB s[0] = true) (h3:plainB s = true) (h4:allB (proC others.data.toList) s = true):proB s most others = true:=by
 unfold proB
 rw [h3,h4]
 rcases s with ⟨⟨l⟩⟩
 cases l with
 | nil=>exact absurd h0 (by show ¬ 0 < 0; omega)
 | cons c r=>
  have h2':capB c = true:=h2
  have hz:(1:Nat) ≤ (⟨⟨c :: r⟩⟩:ByteArray).size:=h0
  simp [h2',h1,hz]
set_option maxHeartbeats 1600000 in
theorem proper_c (s others:ByteArray) (most:Nat) (w:World) (hs:s.size ≤ 4000000000) (hm:MaxLaid w) (hmo:most ≤ 1000000):Calls Tryz.prog 149 #[.string s,.int .i64 most,.string others] w fun e w'=>e = .returned (.bool (proB s most others)) ∧ w = w':=by
 have HPL:=Lib.hid (Plain_c s w hs hm)
 clear hm
 by_cases h0:s.size = 0
 ·have HR:=Lib.hid (proB_no (most:=most) (others:=others) (.inl h0))
  have hz:(s.size:Int) < 1:=by omega
  go_enter Tryz.func149,Tryz.ntmps149
  go_wp2
  go_ret
  exact ⟨ret_bool HR.out.symm,rfl⟩
 by_cases h1:most < s.size
 ·have HR:=Lib.hid (proB_no (others:=others) (.inr (.inl h1)))
  have hz:¬ (s.size:Int) < 1:=by omega
  go_enter Tryz.func149,Tryz.ntmps149
  go_wp2
  go_ret
  exact ⟨ret_bool HR.out.symm,rfl⟩
 have hp:0 < s.size:=by omega
 have hz1:¬ (s.size:Int) < 1:=by omega
 have hz2:¬ (most:Int) < s.size:=by omega
 have HCC:=Lib.hid (isCapital_c s[0] w)
 cases hcp:capB s[0] with
 | false=>
  have HR:=Lib.hid (proB_no (most:=most) (others:=others) (.inr (.inr (.inl ⟨hp,hcp⟩))))
  go_enter Tryz.func149,Tryz.ntmps149
  go_wp2_with (first | (go_at_call 89; refine HCC.out.mono ?_; rintro e w' ⟨rfl,rfl⟩; rw [hcp]) | fail)
  go_ret
  exact ⟨ret_bool HR.out.symm,rfl⟩
 | true=>
 cases hpl:plainB s with
 | false=>
  have HR:=Lib.hid (proB_no (most:=most) (others:=others) (.inr (.inr (.inr (.inl hpl)))))
  go_enter Tryz.func149,Tryz.ntmps149
  go_wp2_with (first | (go_at_call 89; refine HCC.out.mono ?_; rintro e w' ⟨rfl,rfl⟩; rw [hcp]) | (go_at_call 44; refine HPL.out.mono ?_; rintro e w' ⟨rfl,rfl⟩; rw [hpl]) | fail)
  go_ret
  exact ⟨ret_bool HR.out.symm,rfl⟩
 | true=>
 have HY:=Lib.hid (proB_yes (others:=others) hp (show s.size ≤ most by omega) hcp hpl)
 go_enter Tryz.func149,Tryz.ntmps149
 go_wp2_with (first | (go_at_call 89; refine HCC.out.mono ?_; rintro e w' ⟨rfl,rfl⟩; rw [hcp]) | (go_at_call 44; refine HPL.out.mono ?_; rintro e w' ⟨rfl,rfl⟩; rw [hpl]) | fail)
 clear hcp hpl HCC HPL h0 h1 hz1 hz2
 go_loop [30] (fun i=>∃ k:Nat,k ≤ s.size ∧ i = .int .i64 k ∧ Hid (∀ x ∈ s.data.toList.take k,proC others.data.toList x = true)) (fun i=>s.size - (intOf i).toNat)
 case atStart=>exact ⟨0,Nat.zero_le _,rfl,by intro x hx; simp at hx⟩
 case round=>
  obtain ⟨k,hk,rfl,HN⟩:=hrel
  by_cases hlt:k < s.size
  ·have hu:s[k].toNat < 256:=s[k].toNat_lt
   have HCC:=Lib.hid (isCapital_c s[k] w)
   have HDD:=Lib.hid (isDigit_c s[k] w)
   have HII:=Lib.hid (idxB_c others s[k] w)
   have HX:=Lib.hid (fun (h:proC others.data.toList s[k] = false)=>proB_no (most:=most) (.inr (.inr (.inr (.inr (allB_no hlt h))))))
   have HNX:=Lib.hid (fun (h:proC others.data.toList s[k] = true)=>allB_next hlt HN.out h)
   have HPC:=Lib.hid (show proC others.data.toList s[k] = (capB s[k] || digB s[k] || decide (s[k].toNat = 32) || others.data.toList.contains s[k]) from rfl)
   cases hc1:capB s[k] with
   | true=>
    have HK:=Lib.hid (HNX.out (by rw [HPC.out,hc1]; simp))
    go_wp2_with (first | (go_at_call 89; refine HCC.out.mono ?_; rintro e w' ⟨rfl,rfl⟩; rw [hc1]) | fail)
    go_round
    case rel=>exact ⟨k + 1,by omega,intNum,HK.out⟩
    case measure=>simp [intOf]; omega
   | false=>
   cases hc2:digB s[k] with
   | true=>
    have HK:=Lib.hid (HNX.out (by rw [HPC.out,hc1,hc2]; simp))
    go_wp2_with (first | (go_at_call 89; refine HCC.out.mono ?_; rintro e w' ⟨rfl,rfl⟩; rw [hc1]) | (go_at_call 88; refine HDD.out.mono ?_; rintro e w' ⟨rfl,rfl⟩; rw [hc2]) | fail)
    go_round
    case rel=>exact ⟨k + 1,by omega,intNum,HK.out⟩
    case measure=>simp [intOf]; omega
   | false=>
   by_cases hc3:s[k].toNat = 32
   ·have HK:=Lib.hid (HNX.out (by rw [HPC.out,decide_eq_true hc3]; simp))
    have hc3':((s[k].toNat:Int) != 32) = false:=by rw [hc3]; rfl
    clear hc3
    go_wp2_with (first | (go_at_call 89; refine HCC.out.mono ?_; rintro e w' ⟨rfl,rfl⟩; rw [hc1]) | (go_at_call 88; refine HDD.out.mono ?_; rintro e w' ⟨rfl,rfl⟩; rw [hc2]) | fail)
    go_round
    case rel=>exact ⟨k + 1,by omega,intNum,HK.out⟩
    case measure=>simp [intOf]; omega
   have hc3':((s[k].toNat:Int) != 32) = true:=bne_iff_ne.2 (by omega)
   by_cases hc4:s[k] ∈ others.data.toList
   ·have HK:=Lib.hid (HNX.out (by rw [HPC.out,List.contains_iff_mem.2 hc4]; simp))
    have hix:0 ≤ Lib.indexByte others.data.toList s[k]:=(idxB_mem _ _).1 hc4
    clear hc3 hc4
    go_wp2_with (first | (go_at_call 89; refine HCC.out.mono ?_; rintro e w' ⟨rfl,rfl⟩; rw [hc1]) | (go_at_call 88; refine HDD.out.mono ?_; rintro e w' ⟨rfl,rfl⟩; rw [hc2]) | (go_at_call 207; refine HII.out.mono ?_; rintro e w' ⟨rfl,rfl⟩) | fail)
    go_round
    case rel=>exact ⟨k + 1,by omega,intNum,HK.out⟩
    case measure=>simp [intOf]; omega
   ·have HR:=Lib.hid (HX.out (by rw [HPC.out,hc1,hc2,decide_eq_false hc3,show others.data.toList.contains s[k] = false from Bool.eq_false_iff.2 (fun h=>hc4 (List.contains_iff_mem.1 h))]; rfl))
    have hix:¬ 0 ≤ Lib.indexByte others.data.toList s[k]:=fun h=>hc4 ((idxB_mem _ _).2 h)
    clear hc3 hc4
    go_wp2_with (first | (go_at_call 89; refine HCC.out.mono ?_; rintro e w' ⟨rfl,rfl⟩; rw [hc1]) | (go_at_call 88; refine HDD.out.mono ?_; rintro e w' ⟨rfl,rfl⟩; rw [hc2]) | (go_at_call 207; refine HII.out.mono ?_; rintro e w' ⟨rfl,rfl⟩) | fail)
    go_ret
    exact ⟨ret_bool HR.out.symm,rfl⟩
  ·have HR:=Lib.hid (HY.out (allB_yes hlt HN.out))
   go_wp2
   go_ret
   exact ⟨ret_bool HR.out.symm,rfl⟩
end
end Go.Proofs.YtaoobkgepcikiaaGreatDoor
