/- Texts packed: LineA, HeadB. -/
import Derived.Test.YtaoobkgepcikiaaGreatDoorSc06
import Derived.Test.YtaoobkgepcikiaaGreatDoorSc02
import Derived.RegionTactic
import Derived.Lib.Join
namespace Go.Proofs.YtaoobkgepcikiaaGreatDoor
set_option linter.unusedVariables false
section
open Go.RowKit
end
section
open Go.RowKit
def SpLaid (w : World) : Prop := Lib.TabIs Tryz.prog w "strings.asciiSpace" .u8 Lib.asciiSpaceTab
theorem sp_is {b:UInt8} (h:prB b = true):Lib.isSp b = decide (b = 32):=by
 have hh:∀ b,(!prB b || (Lib.isSp b == decide (b = 32))) = true:=u8_eq (q:=fun _=>true) (by decide +kernel)
 have:=hh b
 rw [h] at this
 simpa using this
theorem fields_words:∀ (l cur:List UInt8),(∀ x ∈ l,prB x = true) → Lib.fieldsGo cur l = wordsA l cur:=by
 intro l
 induction l with
 | nil=>intro cur _; cases cur <;> simp [Lib.fieldsGo,wordsA]
 | cons c l ih=>
  intro cur h
  have hl:∀ x ∈ l,prB x = true:=fun x hx=>h x (by simp [hx])
  unfold Lib.fieldsGo wordsA
  rw [sp_is (h c (by simp))]
  by_cases hc:c = 32
  ·rw [if_pos hc,if_pos (by simp [hc]),ih [] hl]
   cases cur <;> simp
  ·rw [if_neg hc,if_neg (by simp [hc]),ih _ hl]
theorem wordsA_len:∀ (l cur:List UInt8),(wordsA l cur).length ≤ l.length + (if cur = [] then 0 else 1):=by
 intro l
 induction l with
 | nil=>intro cur; unfold wordsA; split <;> simp
 | cons c l ih=>
  intro cur
  unfold wordsA
  by_cases hc:c = 32
  ·rw [if_pos hc]
   have h:=ih []
   simp at h
   by_cases h0:cur = []
   ·rw [if_pos h0,if_pos h0]; simp; omega
   ·rw [if_neg h0,if_neg h0]; simp; omega
  ·rw [if_neg hc]
   have h:=ih (cur ++ [c])
   rw [if_neg (by simp)] at h
   simp
   split <;> omega
theorem join_joinW (xs:List (List UInt8)):Lib.join xs [32] = joinW xs:=by
 induction xs with
 | nil=>rfl
 | cons x r ih=>
  cases r with
  | nil=>simp [Lib.join,List.intercalate,joinW]
  | cons y r=>
   rw [joinW,← ih]
   simp [Lib.join,List.intercalate,List.intersperse]
set_option maxHeartbeats 1600000 in
theorem plainR_c (s:ByteArray) (w:World) (hs:s.size ≤ 4000000000) (hsp:SpLaid w):Calls Tryz.prog 56 #[.string s] w fun e w'=>e = .returned (.bool (plainB s)) ∧ Below w.heap.size w w':=by
 have HSP:=Lib.hid hsp
 have HPL:=Lib.hid (show plainB s = (allB prB s && plainL s.data.toList) from rfl)
 clear hsp
 go_enter Tryz.func56,Tryz.ntmps56
 go_wp2
 go_loop [3] (fun i=>∃ k:Nat,k ≤ s.size ∧ i = .int .i64 k ∧ Hid (∀ x ∈ s.data.toList.take k,prB x = true)) (fun i=>s.size - (intOf i).toNat)
 case atStart=>exact ⟨0,Nat.zero_le _,rfl,by intro x hx; simp at hx⟩
 case round=>
  obtain ⟨k,hk,rfl,HN⟩:=hrel
  by_cases hlt:k < s.size
  ·have hu:s[k].toNat < 256:=s[k].toNat_lt
   by_cases hc:32 ≤ s[k].toNat ∧ s[k].toNat ≤ 126
   ·have HC:=Lib.hid (show prB s[k] = true by simp [prB,hc])
    obtain ⟨h1,h2⟩:=hc
    go_wp2
    go_round
    case rel=>exact ⟨k + 1,by omega,intNum,allB_next hlt HN.out HC.out⟩
    case measure=>simp [intOf]; omega
   ·have HC:=Lib.hid (show prB s[k] = false by simp [prB]; omega)
    have HR:=Lib.hid (show plainB s = false by rw [HPL.out,allB_no hlt HC.out]; rfl)
    by_cases h1:s[k].toNat < 32
    ·clear hc
     go_wp2
     go_ret
     exact ⟨ret_bool HR.out.symm,Below.refl _ _⟩
    ·have h2:126 < s[k].toNat:=by omega
     clear hc
     go_wp2
     go_ret
     exact ⟨ret_bool HR.out.symm,Below.refl _ _⟩
  ·have hall:=allB_yes hlt HN.out
   have hpr:∀ x ∈ s.data.toList,prB x = true:=by
    unfold allB at hall
    rw [List.all_eq_true] at hall
    exact hall
   have hfw:Lib.fields s.data.toList = wordsA s.data.toList []:=fields_words _ _ hpr
   have HF:=Lib.hid (Tryz.strings_Fields_laid s w (by omega) (fun j b hj=>by
    have h:=hpr b (List.mem_of_getElem? hj)
    simp [prB] at h
    omega) HSP.out)
   have HR:=Lib.hid (show plainB s = decide (joinW (wordsA s.data.toList []) = s.data.toList) by
    rw [HPL.out,hall,Bool.true_and]
    cases h:plainL s.data.toList with
    | true=>exact (decide_eq_true ((plain_join _).2 h)).symm
    | false=>exact (decide_eq_false (fun e=>by rw [(plain_join _).1 e] at h; cases h)).symm)
   have hjl:(joinW (wordsA s.data.toList [])).length ≤ s.size:=by
    have h:=join_len s.data.toList []
    simpa using h
   have hwl:(wordsA s.data.toList []).length ≤ s.size:=by
    have h:=wordsA_len s.data.toList []
    simpa using h
   have HJ:=Lib.hid (show Lib.join (((wordsA s.data.toList []).map fun l=>(⟨l.toArray⟩:ByteArray)).map (·.data.toList)) (⟨#[32]⟩:ByteArray).data.toList = joinW (wordsA s.data.toList []) by
    rw [← join_joinW,List.map_map,show ((fun x:ByteArray=>x.data.toList) ∘ fun l:List UInt8=>(⟨l.toArray⟩:ByteArray)) = id from funext fun l=>rfl,List.map_id])
   have HV:=Lib.hid (show Sli strR (w.alloc (.cells (List.map (fun l=>Value.string (⟨l.toArray⟩:ByteArray)) (wordsA s.data.toList [])).toArray 9)) (fun b=>b = w.heap.size) ((wordsA s.data.toList []).map fun l=>(⟨l.toArray⟩:ByteArray)) (.slice (some ⟨w.heap.size,0,none⟩) (wordsA s.data.toList []).length (wordsA s.data.toList []).length) by
    generalize wordsA s.data.toList [] = ws at *
    rw [show List.map (fun l=>Value.string (⟨l.toArray⟩:ByteArray)) ws = (ws.map fun l=>(⟨l.toArray⟩:ByteArray)).map Value.string by rw [List.map_map]; rfl]
    have hlen:(ws.map fun l=>(⟨l.toArray⟩:ByteArray)).length = ws.length:=List.length_map _
    rw [← hlen]
    generalize (ws.map fun l=>(⟨l.toArray⟩:ByteArray)) = wl at *
    refine Sli.new _ _ ⟨by rw [List.length_map]; show _ = _ * 1; rw [Nat.mul_one],fun k x hx=>?_⟩ rfl (Nat.le_refl _) (by omega)
    show ((wl.map Value.string).drop (k * 1)).take 1 = [.string x]
    obtain ⟨hk,rfl⟩:=List.getElem?_eq_some_iff.1 hx
    rw [Nat.mul_one,List.drop_eq_getElem_cons (by rw [List.length_map]; exact hk),List.take_succ_cons,List.take_zero,List.getElem_map])
   clear hall hpr
   go_wp2_with fail
   refine HF.out.mono ?_
   rintro e w2 ⟨rfl,rfl⟩
   rw [hfw]
   have HC:=Lib.hid (join_c ((wordsA s.data.toList []).map fun l=>(⟨l.toArray⟩:ByteArray)) ⟨#[32]⟩ _ _ _ HV.out (fun b hb=>by subst hb; simp) (by rw [HJ.out]; omega) (by rw [List.length_map]; omega))
   have HB:=Lib.hid ((Below.refl w.heap.size w).alloc (Nat.le_refl _) (.cells (List.map (fun l=>Value.string (⟨l.toArray⟩:ByteArray)) (wordsA s.data.toList [])).toArray 9))
   generalize w.alloc (.cells (List.map (fun l=>Value.string (⟨l.toArray⟩:ByteArray)) (wordsA s.data.toList [])).toArray 9) = w2 at *
   have hJ:=HJ.out
   generalize joinW (wordsA s.data.toList []) = jw at *
   clear hfw HF HV HJ hwl
   go_wp2_with fail
   refine HC.out.mono ?_
   rintro e w3 ⟨rfl,hb3⟩
   rw [hJ]
   have HB3:=Lib.hid (HB.out.trans (hb3.mono HB.out.size))
   have HE:=Lib.hid (show ((⟨jw.toArray⟩:ByteArray).toList == s.toList) = decide (jw = s.data.toList) by
    rw [ByteArray.toList_eq,ByteArray.toList_eq]
    show (jw == s.data.toList) = _
    rw [Bool.eq_iff_iff,beq_iff_eq,decide_eq_true_eq])
   generalize (⟨jw.toArray⟩:ByteArray) = Z at *
   clear hb3 hJ HC hjl
   go_wp2
   go_ret
   exact ⟨ret_bool (by rw [HR.out]; exact HE.out),HB3.out⟩
def setB (s:ByteArray):Bool:=proB s 60 ⟨#[39,46,45,47]⟩ && !Lib.contains s.data.toList (⟨#[32,45,32]⟩:ByteArray).data.toList && !Lib.hasSuffix s.data.toList (⟨#[32,45]⟩:ByteArray).data.toList
set_option maxHeartbeats 1600000 in
theorem isSet_c (s:ByteArray) (w:World) (hs:s.size ≤ 4000000000) (hm:MaxLaid w):Calls Tryz.prog 90 #[.string s] w fun e w'=>e = .returned (.bool (setB s)) ∧ w = w':=by
 have HP:=Lib.hid (proper_c s ⟨#[39,46,45,47]⟩ 60 w hs hm (by omega))
 obtain ⟨⟨m,hm⟩,_⟩:=hm
 have HC:=Lib.hid (Tryz.strings_Contains s ⟨#[32,45,32]⟩ m w (by omega) hm)
 have HS:=Lib.hid (Tryz.strings_HasSuffix s ⟨#[32,45]⟩ w (by omega))
 have HR:=Lib.hid (show setB s = (proB s 60 ⟨#[39,46,45,47]⟩ && !Lib.contains s.data.toList (⟨#[32,45,32]⟩:ByteArray).data.toList && !Lib.hasSuffix s.data.toList (⟨#[32,45]⟩:ByteArray).data.toList) from rfl)
 generalize proB s 60 ⟨#[39,46,45,47]⟩ = p1 at *
 generalize Lib.contains s.data.toList (⟨#[32,45,32]⟩:ByteArray).data.toList = p2 at *
 generalize Lib.hasSuffix s.data.toList (⟨#[32,45]⟩:ByteArray).data.toList = p3 at *
 clear hm
 go_enter Tryz.func90,Tryz.ntmps90
 cases p1 <;> cases p2
 all_goals
  go_wp2_with (first | (go_at_call 149; refine HP.out.mono ?_; rintro e w' ⟨rfl,rfl⟩) | (go_at_call 83; refine HS.out.mono ?_; rintro e w' ⟨rfl,rfl⟩) | (go_at_call 87; refine HC.out.mono ?_; rintro e w' ⟨rfl,rfl⟩) | fail)
  go_ret
  exact ⟨ret_bool (by rw [HR.out]; simp),rfl⟩
end
end Go.Proofs.YtaoobkgepcikiaaGreatDoor
