/- Texts packed: SlateW, NumO, BetwW. -/
import Derived.Test.YtaoobkgepcikiaaGreatDoorRows
import Derived.Test.YtaoobkgepcikiaaGreatDoorSc03
import Derived.Test.YtaoobkgepcikiaaGreatDoorSc02
import Derived.Test.YtaoobkgepcikiaaGreatDoorSc01
import Derived.Deep.DeepCutAuto
import Derived.RegionTactic
namespace Go.Proofs.YtaoobkgepcikiaaGreatDoor
set_option linter.unusedVariables false
section
open Go.RowKit
end
section
open Go.RowKit Go.Sort
theorem dropWhile_eq_drop (p:UInt8 → Bool) (l:List UInt8):l.dropWhile p = l.drop (l.takeWhile p).length:=by
 induction l with
 | nil=>rfl
 | cons x l ih=>cases h:p x <;> simp [h,ih]
theorem fig_dig:([48,49,50,51,52,53,54,55,56,57]:List UInt8).contains = digB:=by
 funext c
 exact u8_eq (p:=([48,49,50,51,52,53,54,55,56,57]:List UInt8).contains) (q:=digB) (by decide +kernel) c
theorem numK_le (s:ByteArray):numK s ≤ s.size:=by
 have:=(List.takeWhile_prefix (p:=digB) (l:=s.data.toList)).length_le
 simpa [numK] using this
theorem trimLeft_num (s:ByteArray):(⟨(Lib.trimLeftS s.data.toList (ByteArray.mk #[48,49,50,51,52,53,54,55,56,57]).data.toList).toArray⟩:ByteArray) = s.extract (numK s) s.size:=by
 apply ba_ext
 rw [extract_end]
 show Lib.trimLeftS s.data.toList [48,49,50,51,52,53,54,55,56,57] = _
 unfold Lib.trimLeftS numK
 rw [← dropWhile_eq_drop]
 congr 1
 exact fig_dig
set_option maxHeartbeats 400000 in
theorem halved_c (s:ByteArray) (w:World) (hs:s.size ≤ 140737488355328) :
  Calls Tryz.prog 39 #[.string s] w fun e w'=>e = .returned (.tuple #[.string (s.extract 0 (numK s)),.string (s.extract (numK s) s.size)]) ∧ Below w.heap.size w w':=by
 have hk:=numK_le s
 have hz:(s.extract (numK s) s.size).size = s.size - numK s:=by rw [ByteArray.size_extract]; omega
 have HT:=Lib.hid (trimLeft_num s)
 go_enter Tryz.func39,Tryz.ntmps39
 go_wp2_with fail
 refine (Any.strings_TrimLeft_laid Tryz.lays161 (by kernel_rfl) s ⟨#[48,49,50,51,52,53,54,55,56,57]⟩ _ (by decide) (ascii_of_all (by decide))).mono ?_
 rintro e w1 ⟨rfl,hb⟩
 rw [HT.out]
 generalize hR:s.extract (numK s) s.size = r at *
 have HR:=Lib.hid hR; clear hR
 generalize hK:numK s = k at *
 have HK:=Lib.hid hK; clear hK
 have e1:(s.size:Int) - (r.size:Int) = (k:Int):=by omega
 have e2:IntKind.i64.wrap ((s.size:Int) - (r.size:Int)) = (k:Int):=by rw [e1]; exact IntWalk.i64_in _ (by omega)
 have e3:(0:Int) ≤ (k:Int):=by omega
 have e4:(k:Int) ≤ (s.size:Int):=by omega
 clear hz
 go_wp2
 go_ret2
 exact ⟨by rw [HK.out,HR.out]; rfl,hb⟩
theorem numB_ref (s:ByteArray):numB s = ((decide ((1:Int) ≤ (numK s:Int)) && decide ((numK s:Int) ≤ 3)) && decide (s.size - numK s ≤ 5) && (s.data.toList.drop (numK s)).all capB && !Lib.hasSuffix (s.data.toList.drop (numK s)) [65]
  && (decide (s.data.toList.head? ≠ some 48) || (decide (s.data.toList.take (numK s) = [48]) && decide (numK s < s.size)))):=by
 unfold numB
 have hk:=numK_le s
 have hl:s.data.toList.length = s.size:=by simp
 by_cases h:s.data.toList.take (numK s) = [48]
 ·have h1:numK s = 1:=by
   have:=congrArg List.length h
   rw [List.length_take,hl] at this
   simp at this; omega
  have h2:s.data.toList.head? = some 48:=by
   rw [h1] at h
   cases hd:s.data.toList with
   | nil=>rw [hd] at h; cases h
   | cons x l=>rw [hd] at h; simp at h; rw [h]; rfl
  rw [if_pos h,decide_eq_true h,decide_eq_true (p:=(1:Int) ≤ (numK s:Int)) (by omega),decide_eq_true (p:=(numK s:Int) ≤ 3) (by omega),decide_eq_false (p:=s.data.toList.head? ≠ some 48) (by simp [h2])]
  generalize (s.data.toList.drop (numK s)).all capB = a
  generalize decide (s.size - numK s ≤ 5) = b
  generalize Lib.hasSuffix (s.data.toList.drop (numK s)) [65] = c
  generalize decide (numK s < s.size) = d
  cases a <;> cases b <;> cases c <;> cases d <;> rfl
 ·rw [if_neg h,decide_eq_false h]
  rw [show decide ((1:Int) ≤ (numK s:Int)) = decide (1 ≤ numK s) by rw [decide_eq_decide]; omega,show decide ((numK s:Int) ≤ 3) = decide (numK s ≤ 3) by rw [decide_eq_decide]; omega]
  generalize (s.data.toList.drop (numK s)).all capB = a
  generalize decide (s.size - numK s ≤ 5) = b
  generalize Lib.hasSuffix (s.data.toList.drop (numK s)) [65] = c
  generalize decide (s.data.toList.head? ≠ some 48) = d
  generalize decide (1 ≤ numK s) = f
  generalize decide (numK s ≤ 3) = g
  cases a <;> cases b <;> cases c <;> cases d <;> cases f <;> cases g <;> rfl
theorem u48 (c:UInt8):decide (some c ≠ some 48) = decide ((c.toNat:Int) ≠ 48):=by
 rw [decide_eq_decide]
 constructor
 ·intro h h'
  have h2:c.toNat = 48:=by omega
  exact h (congrArg some (UInt8.toNat.inj h2))
 ·intro h h'
  injection h' with h'
  rw [h'] at h; exact h rfl
theorem list48 (d:ByteArray):decide (d.data.toList = [48]) = decide (d = ⟨#[48]⟩):=by
 rw [decide_eq_decide]
 constructor
 ·intro h; exact ba_ext h
 ·intro h; rw [h]
theorem isEmpty_size (s:ByteArray):s.toList.isEmpty = decide (s.size = 0):=by
 rw [ByteArray.toList_eq]
 rcases s with ⟨⟨l⟩⟩
 cases l with
 | nil=>rfl
 | cons x l=>
  show false = decide ((x :: l).length = 0)
  simp
theorem cap_set:([65,66,67,68,69,70,71,72,73,74,75,76,77,78,79,80,81,82,83,84,85,86,87,88,89,90]:List UInt8).contains = capB:=by
 funext c
 exact u8_eq (p:=([65,66,67,68,69,70,71,72,73,74,75,76,77,78,79,80,81,82,83,84,85,86,87,88,89,90]:List UInt8).contains) (q:=capB) (by decide +kernel) c
set_option maxRecDepth 100000 in
set_option maxHeartbeats 1000000 in
theorem NumberOf_c (s:ByteArray) (w:World) (hs:s.size ≤ 140737488355328):Calls Tryz.prog 42 #[.string s] w fun e w'=>e = .returned (.bool (numB s)) ∧ Below w.heap.size w w':=by
 have hk:=numK_le s
 obtain ⟨d,hd⟩:∃ d,s.extract 0 (numK s) = d:=⟨_,rfl⟩
 obtain ⟨r,hr⟩:∃ r,s.extract (numK s) s.size = r:=⟨_,rfl⟩
 have hds:d.size = numK s:=by rw [← hd,ByteArray.size_extract]; omega
 have hrs:r.size = s.size - numK s:=by rw [← hr,ByteArray.size_extract]; omega
 have hrl:s.data.toList.drop (numK s) = r.data.toList:=by rw [← hr,extract_end]
 have hdl:s.data.toList.take (numK s) = d.data.toList:=by rw [← hd]; simp
 have HB:=Lib.hid (numB_ref s)
 have HD:=Lib.hid hd; have HR:=Lib.hid hr; clear hd hr
 have hds2:d.size ≤ 140737488355328:=by omega
 have hrs2:r.size ≤ 140737488355328:=by omega
 have HRL:=Lib.hid hrl; have HDL:=Lib.hid hdl; clear hrl hdl
 have HDS:=Lib.hid hds; have HRS:=Lib.hid hrs; clear hds hrs
 cases c1:(decide ((1:Int) ≤ (d.size:Int)) && decide ((d.size:Int) ≤ 3)) with
 | false=>
  have HV:=Lib.hid (show numB s = false by rw [HB.out]; rw [HDS.out] at c1; rw [c1]; simp)
  have C1:=Lib.hid c1; clear c1
  go_enter Tryz.func42,Tryz.ntmps42
  go_wp2_with fail
  refine (halved_c s _ hs).mono ?_
  rintro e w1 ⟨rfl,hb1⟩
  rw [HD.out,HR.out]
  go_wp2_with fail
  refine (long_c d 1 3 _ hds2).mono ?_
  rintro e w' ⟨rfl,rfl⟩
  rw [C1.out]
  go_wp2
  go_ret
  exact ⟨by rw [HV.out]; rfl,hb1⟩
 | true=>
  have hdz:1 ≤ d.size ∧ d.size ≤ 3:=by simp at c1; omega
  have C1:=Lib.hid c1; clear c1
  by_cases c2:5 < r.size
  ·have HV:=Lib.hid (show numB s = false by rw [HB.out,decide_eq_false (p:=s.size - numK s ≤ 5) (by rw [← HRS.out]; omega)]; simp)
   go_enter Tryz.func42,Tryz.ntmps42
   go_wp2_with fail
   refine (halved_c s _ hs).mono ?_
   rintro e w1 ⟨rfl,hb1⟩
   rw [HD.out,HR.out]
   go_wp2_with fail
   refine (long_c d 1 3 _ hds2).mono ?_
   rintro e w' ⟨rfl,rfl⟩
   rw [C1.out]
   go_wp2
   go_ret
   exact ⟨by rw [HV.out]; rfl,hb1⟩
  ·have c2':r.size ≤ 5:=by omega
   cases c3:allB capB r with
   | false=>
    have HV:=Lib.hid (show numB s = false by rw [HB.out,HRL.out,show r.data.toList.all capB = false from c3]; simp)
    have C3:=Lib.hid c3; clear c3 c2
    go_enter Tryz.func42,Tryz.ntmps42
    go_wp2_with fail
    refine (halved_c s _ hs).mono ?_
    rintro e w1 ⟨rfl,hb1⟩
    rw [HD.out,HR.out]
    go_wp2_with fail
    refine (long_c d 1 3 _ hds2).mono ?_
    rintro e w' ⟨rfl,rfl⟩
    rw [C1.out]
    have HB1:=Lib.hid hb1; clear hb1
    go_wp2_with fail
    refine (made_c r _ _ hrs2 (by decide) (by decide)).mono ?_
    rintro e w2 ⟨rfl,hb2⟩
    rw [show (ByteArray.mk #[65,66,67,68,69,70,71,72,73,74,75,76,77,78,79,80,81,82,83,84,85,86,87,88,89,90]).data.toList.contains = capB from cap_set,C3.out]
    have HB2:=Lib.hid (HB1.out.trans (hb2.mono HB1.out.size)); clear hb2
    go_wp2
    go_ret
    exact ⟨by rw [HV.out]; rfl,HB2.out⟩
   | true=>
    have C3:=Lib.hid c3; clear c3 c2
    cases c4:Lib.hasSuffix r.data.toList [65] with
    | true=>
     have HV:=Lib.hid (show numB s = false by rw [HB.out,HRL.out,c4]; simp)
     have C4:=Lib.hid c4; clear c4
     go_enter Tryz.func42,Tryz.ntmps42
     go_wp2_with fail
     refine (halved_c s _ hs).mono ?_
     rintro e w1 ⟨rfl,hb1⟩
     rw [HD.out,HR.out]
     go_wp2_with fail
     refine (long_c d 1 3 _ hds2).mono ?_
     rintro e w' ⟨rfl,rfl⟩
     rw [C1.out]
     have HB1:=Lib.hid hb1; clear hb1
     go_wp2_with fail
     refine (made_c r _ _ hrs2 (by decide) (by decide)).mono ?_
     rintro e w2 ⟨rfl,hb2⟩
     rw [show (ByteArray.mk #[65,66,67,68,69,70,71,72,73,74,75,76,77,78,79,80,81,82,83,84,85,86,87,88,89,90]).data.toList.contains = capB from cap_set,C3.out]
     have HB2:=Lib.hid (HB1.out.trans (hb2.mono HB1.out.size)); clear hb2
     go_wp2_with fail
     refine (Tryz.strings_HasSuffix r ⟨#[65]⟩ _ (by omega)).mono ?_
     rintro e w' ⟨rfl,rfl⟩
     rw [show Lib.hasSuffix r.data.toList (ByteArray.mk #[65]).data.toList = true from C4.out]
     go_wp2
     go_ret
     exact ⟨by rw [HV.out]; rfl,HB2.out⟩
    | false=>
     have C4:=Lib.hid c4; clear c4
     have hd0:s.data.toList.head? = some d[0]:=by
      have:d.data.toList.head? = some d[0]:=by rw [List.head?_eq_getElem?,List.getElem?_eq_getElem (by simp; omega)]; rfl
      rw [← HDL.out,List.head?_take,if_neg (by rw [← HDS.out]; omega)] at this
      exact this
     have HN:=Lib.hid (show numB s = (decide ((d[0].toNat:Int) ≠ 48) || (decide (d = ⟨#[48]⟩) && decide (0 < r.size))) by
      rw [HB.out,HRL.out,HDL.out,C4.out,show r.data.toList.all capB = true from C3.out,decide_eq_true (p:=s.size - numK s ≤ 5) (by rw [← HRS.out]; omega),hd0]
      rw [← HDS.out,C1.out]
      simp only [Bool.true_and,Bool.not_false]
      rw [u48,list48,show decide (d.size < s.size) = decide (0 < r.size) by rw [decide_eq_decide]; have:=HRS.out; have:=HDS.out; omega])
     clear hd0
     have hu:=d[0].toNat_lt
     go_enter Tryz.func42,Tryz.ntmps42
     go_wp2_with fail
     refine (halved_c s _ hs).mono ?_
     rintro e w1 ⟨rfl,hb1⟩
     rw [HD.out,HR.out]
     go_wp2_with fail
     refine (long_c d 1 3 _ hds2).mono ?_
     rintro e w' ⟨rfl,rfl⟩
     rw [C1.out]
     have HB1:=Lib.hid hb1; clear hb1
     go_wp2_with fail
     refine (made_c r _ _ hrs2 (by decide) (by decide)).mono ?_
     rintro e w2 ⟨rfl,hb2⟩
     rw [show (ByteArray.mk #[65,66,67,68,69,70,71,72,73,74,75,76,77,78,79,80,81,82,83,84,85,86,87,88,89,90]).data.toList.contains = capB from cap_set,C3.out]
     have HB2:=Lib.hid (HB1.out.trans (hb2.mono HB1.out.size)); clear hb2
     go_wp2_with fail
     refine (Tryz.strings_HasSuffix r ⟨#[65]⟩ _ (by omega)).mono ?_
     rintro e w' ⟨rfl,rfl⟩
     rw [show Lib.hasSuffix r.data.toList (ByteArray.mk #[65]).data.toList = false from C4.out]
     go_wp2
     ·have f1:(d[0].toNat:Int) = 48:=by assumption
      have f2:d.toList = [48]:=by assumption
      go_ret
      exact ⟨ret_bool (by rw [HN.out,decide_eq_false (p:=(d[0].toNat:Int) ≠ 48) (by simp [f1]),decide_eq_true (p:=d = ⟨#[48]⟩) (ba_ext (by rw [← ByteArray.toList_eq]; exact f2)),isEmpty_size]; by_cases h0:r.size = 0 <;> simp [h0] <;> omega),HB2.out⟩
     ·have f1:(d[0].toNat:Int) = 48:=by assumption
      have f2:¬ d.toList = [48]:=by assumption
      go_ret
      exact ⟨ret_bool (by rw [HN.out,decide_eq_false (p:=(d[0].toNat:Int) ≠ 48) (by simp [f1]),decide_eq_false (p:=d = ⟨#[48]⟩) (fun h=>f2 (by rw [h,ByteArray.toList_eq]))]; rfl),HB2.out⟩
     ·have f1:¬ (d[0].toNat:Int) = 48:=by assumption
      go_ret
      exact ⟨ret_bool (by rw [HN.out,decide_eq_true (p:=(d[0].toNat:Int) ≠ 48) f1]; rfl),HB2.out⟩
end
section
open Go.RowKit Go.Sort
def CapsP (w:World) (e:Ending) (w':World):Prop:=∃ (z:ByteArray) (b:Bool),e = .returned (.tuple #[.string z,.bool b]) ∧ z.size ≤ 5 ∧ Below w.heap.size w w'
set_option maxRecDepth 100000 in
set_option maxHeartbeats 4000000 in
theorem nextCapitals_c (s:ByteArray) (n:Nat) (w:World) (hs:s.size ≤ 10000) (h1:1 ≤ n) (h5:n ≤ 5):Calls Tryz.prog 41 #[.string s,.int .i64 n] w (CapsP w):=by
 have qc:∀ (w:World) (s:ByteArray),(convert 9 134 (.string s)).run Tryz.prog w = .ok (.slice (some ⟨w.heap.size,0,none⟩) s.size (grownCap w s.size 0 5)) (Lib.bytesWorld w 5 s):=fun w s=>Lib.run_convert_string_bytes w _ _ _ s Tryz.underlying9 Tryz.underlying134 Tryz.underlying5
 by_cases hc:s.size < n
 ·obtain ⟨c,hcd⟩:∃ c:Nat,c = n - s.size - 1:=⟨_,rfl⟩
  have e1:IntKind.i64.wrap (IntKind.i64.wrap ((n:Int) - (s.size:Int)) - 1) = (c:Int):=by
   rw [IntWalk.i64_in _ (show -9223372036854775808 ≤ (n:Int) - (s.size:Int) ∧ (n:Int) - (s.size:Int) ≤ 9223372036854775807 by omega),IntWalk.i64_in _ (by omega)]; omega
  have e2:(n:Int) - (s.size:Int) - 1 = (c:Int):=by omega
  have HC:=Lib.hid hcd
  have hc5:c ≤ 5:=by omega
  clear hcd
  go_enter Tryz.func41,Tryz.ntmps41
  go_wp2_with fail
  refine (Tryz.strings_Repeat ⟨#[65]⟩ c _ (by omega) (by show 1 * c ≤ _; omega)).mono ?_
  rintro e w2 ⟨rfl,hb2⟩
  generalize hW:(⟨(Lib.repeatL (⟨#[65]⟩:ByteArray).data.toList _).toArray⟩:ByteArray) = Y
  have hYs:Y.size = c:=by rw [← hW]; show ((Lib.repeatL [65] _).toArray).size = c; rw [List.size_toArray,Lib.repeatL_length]; simp
  clear hW
  go_wp2
  go_ret2
  exact ⟨_,_,rfl,by rw [ByteArray.size_append,ByteArray.size_append]; show s.size + Y.size + 1 ≤ 5; have:=HC.out; omega,hb2⟩
 ·have hz:(s.extract 0 n).size = n:=by rw [ByteArray.size_extract]; omega
  have hN:¬ (s.size:Int) < n:=by omega
  go_enter Tryz.func41,Tryz.ntmps41
  go_upto_region 4 with (fail)
  generalize hW:Lib.bytesWorld w 5 (s.extract 0 n) = wB
  have H0:=Lib.hid (show ByB w wB w.heap.size n by have h:=ByB.start w w 5 (s.extract 0 n) (Below.refl _ _); rw [hW,hz] at h; exact h)
  generalize grownCap w n 0 5 = cp
  clear hW
  go_wp2
  go_loopw [7] (fun i wr=>∃ k:Nat,k ≤ n ∧ i = .int .i64 ((k:Int) - 1) ∧ wr = wB) (fun i _=>(intOf i + 1).toNat)
  case atStart=>exact ⟨n,Nat.le_refl _,rfl,rfl⟩
  case round=>
   obtain ⟨k,hk,rfl,rfl⟩:=hrel
   by_cases hk0:k = 0
   ·subst hk0
    go_wp2
    go_ret2
    exact ⟨_,_,rfl,by decide,H0.out.2.1⟩
   ·obtain ⟨j,rfl⟩:∃ j,k = j + 1:=⟨k - 1,by omega⟩
    have ej:((j + 1:Nat):Int) - 1 = (j:Int):=by omega
    rw [ej]
    obtain ⟨x,hx0,hx1,hxc,hxf⟩:=H0.out.at_ j (by omega)
    by_cases hx:x < 90
    ·have ex:IntKind.u8.wrap (x + 1) = x + 1:=by simp [IntKind.wrap,IntKind.bits]; omega
     have H1:=Lib.hid (H0.out.set j (by omega) (x + 1) (by omega) (by omega))
     go_wp2
     go_loopw [8] (fun i wx=>∃ q:Nat,q ≤ n ∧ i = .int .i64 (q:Int) ∧ Hid (ByB w wx w.heap.size n)) (fun i _=>n - (intOf i).toNat)
     case atStart=>exact ⟨j + 1,by omega,by simp,H1⟩
     case round=>
      clear H1 hxc hxf
      obtain ⟨q,hq,rfl,HQ⟩:=hrel
      by_cases hqn:q < n
      ·obtain ⟨y,hy0,hy1,hyc,hyf⟩:=HQ.out.at_ q hqn
       have H2:=Lib.hid (HQ.out.set q hqn 65 (by omega) (by omega))
       go_wp2
       go_roundw
       case rel=>exact ⟨q + 1,by omega,intNum,H2⟩
       all_goals (try (simp [intOf] <;> omega))
      ·obtain ⟨m,rfl⟩:∃ m,n = m + 1:=⟨n - 1,by omega⟩
       have em:((m + 1:Nat):Int) - 1 = (m:Int):=by omega
       obtain ⟨y,hy0,hy1,hyc,hyf⟩:=HQ.out.at_ m (by omega)
       by_cases hy:y = 65
       ·subst hy
        have H2:=Lib.hid (HQ.out.set m (by omega) 66 (by omega) (by omega))
        obtain ⟨z,hz2,hzr⟩:=H2.out.str Tryz.prog 134 9 5 cp Tryz.underlying134 Tryz.underlying5 Tryz.underlying9
        go_wp2
        go_ret2
        exact ⟨_,_,rfl,by omega,H2.out.2.1⟩
       ·obtain ⟨z,hz2,hzr⟩:=HQ.out.str Tryz.prog 134 9 5 cp Tryz.underlying134 Tryz.underlying5 Tryz.underlying9
        go_wp2
        go_ret2
        exact ⟨_,_,rfl,by omega,HQ.out.2.1⟩
    ·go_wp2
     go_roundw
     case rel=>exact ⟨j,by omega,rfl,by trivial⟩
     all_goals (try (simp [intOf] <;> omega))
def orI (l:List Int):Int:=(l.find? (fun x=>decide (x ≠ 0))).getD 0
set_option maxHeartbeats 1000000 in
theorem orI_c (A:Option Addr) (l:List Int) (c lo:Nat) (w:World) (hr:Rs w lo w.heap.size 1 intc A l) (hl:l.length ≤ 1000000):Calls Tryz.prog 84 #[.slice A l.length c] w (fun e w'=>e = .returned (.int .i64 (orI l)) ∧ w' = w):=by
 have HR:=Lib.hid hr
 clear hr
 go_enter Tryz.func84,Tryz.ntmps84
 go_wp2
 go_loop [8,5] (fun i _=>∃ k:Nat,k ≤ l.length ∧ i = .int .i64 k ∧ Hid (∀ x ∈ l.take k,decide (x ≠ 0) = false)) (fun i _=>l.length - (intOf i).toNat)
 case atStart=>exact ⟨0,by omega,rfl,Lib.hid (by simp)⟩
 case round=>
  obtain ⟨k,hk,rfl,HX⟩:=hrel
  by_cases hlt:k < l.length
  ·obtain ⟨b,off,rfl,hb0,hb,hcell⟩:=HR.out.at1 (enc1:=.int .i64) hlt
   by_cases h0:l[k] = 0
   ·rw [h0] at hcell
    go_wp2
    go_round
    case rel=>exact ⟨k + 1,by omega,intNum,Lib.hid (take_next (q:=fun x=>decide (x ≠ 0) = false) hlt HX.out (by simp [h0]))⟩
    all_goals (try (simp [intOf] <;> omega))
   ·have HV:=Lib.hid (show orI l = l[k] by unfold orI; rw [List.find?_eq_some_iff_getElem.2 ⟨by simpa using h0,k,hlt,rfl,fun j hj=>by have:=HX.out l[j] (by rw [List.mem_take_iff_getElem]; exact ⟨j,by omega,rfl⟩); simpa using this⟩]; rfl)
    generalize l[k] = z at *
    go_wp2
    go_ret
    exact ⟨by rw [HV.out]; rfl,rfl⟩
  ·have HV:=Lib.hid (show orI l = 0 by unfold orI; rw [List.find?_eq_none.2 (fun x hx=>by have:=take_all (q:=fun x=>decide (x ≠ 0) = false) hlt HX.out x hx; simpa using this)]; rfl)
   go_wp2
   go_ret
   exact ⟨by rw [HV.out]; rfl,rfl⟩
def anyI (w:World) (e:Ending) (w':World):Prop:=∃ z:Int,e = .returned (.int .i64 z) ∧ Below w.heap.size w w'
set_option maxRecDepth 100000 in
set_option maxHeartbeats 2000000 in
theorem NumbersOrder_any (a b:ByteArray) (w:World) (ha:a.size ≤ 10000) (hb:b.size ≤ 10000) (hl:ErrsLaid w):Calls Tryz.prog 43 #[.string a,.string b] w (anyI w):=by
 have HL:=Lib.hid hl
 clear hl
 go_enter Tryz.func43,Tryz.ntmps43
 go_wp2_with fail
 refine (halved_c a _ (by omega)).mono ?_
 rintro e w1 ⟨rfl,hb1⟩
 have HB1:=Lib.hid hb1
 clear hb1
 have hk1:=numK_le a
 generalize hA1:a.extract 0 (numK a) = a1
 generalize hA2:a.extract (numK a) a.size = a2
 have z1:a1.size ≤ 10000:=by rw [← hA1,ByteArray.size_extract]; omega
 have z2:a2.size ≤ 10000:=by rw [← hA2,ByteArray.size_extract]; omega
 clear hA1 hA2
 go_wp2_with fail
 refine (halved_c b _ (by omega)).mono ?_
 rintro e w2 ⟨rfl,hb2⟩
 have HB2:=Lib.hid (HB1.out.trans (hb2.mono HB1.out.size))
 clear hb2 HB1
 have hk2:=numK_le b
 generalize hA1:b.extract 0 (numK b) = b1
 generalize hA2:b.extract (numK b) b.size = b2
 have z3:b1.size ≤ 10000:=by rw [← hA1,ByteArray.size_extract]; omega
 have z4:b2.size ≤ 10000:=by rw [← hA2,ByteArray.size_extract]; omega
 clear hA1 hA2
 go_wp2_with fail
 refine (atoi_c a1 _ (by omega) (HL.out.below HB2.out (Nat.le_refl _))).mono ?_
 rintro e w3 ⟨n3,v3,h3,rfl,hb3⟩
 have HB3:=Lib.hid (HB2.out.trans (hb3.mono HB2.out.size))
 clear hb3 HB2 h3
 go_wp2_with fail
 refine (atoi_c b1 _ (by omega) (HL.out.below HB3.out (Nat.le_refl _))).mono ?_
 rintro e w4 ⟨n4,v4,h4,rfl,hb4⟩
 have HB4:=Lib.hid (HB3.out.trans (hb4.mono HB3.out.size))
 clear hb4 HB3 h4
 go_wp2_with fail
 have hcc:=Tryz.cmp_Compare_int n3 n4 w4
 with_reducible refine hcc.mono ?_
 clear hcc
 rintro e w5 ⟨rfl,rfl⟩
 go_wp2_with fail
 have hcc:=Tryz.strings_Compare a2 b2 w5
 with_reducible refine hcc.mono ?_
 clear hcc
 rintro e w6 ⟨rfl,rfl⟩
 generalize Lib.compareInt n3 n4 = p
 generalize Lib.compareBytes _ _ = q
 go_wp2_with fail
 refine (orI_c (some ⟨w6.heap.size,0,none⟩) [p,q] 2 0 _ (Rs.more (Rs.new1 w6 [p,q] (.int .i64) _ _ (Nat.le_refl _)) (Nat.zero_le _) (by simp)) (by simp)).mono ?_
 rintro e w7 ⟨rfl,rfl⟩
 go_wp2
 go_ret
 exact ⟨_,rfl,HB4.out.alloc HB4.out.size _⟩
end
end Go.Proofs.YtaoobkgepcikiaaGreatDoor
