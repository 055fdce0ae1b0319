/- Texts packed: NumW. -/
import Derived.Test.YtaoobkgepcikiaaGreatDoorRows
import Derived.Test.YtaoobkgepcikiaaGreatDoorSc02
namespace Go.Proofs.YtaoobkgepcikiaaGreatDoor
set_option linter.unusedVariables false
open Go.RowKit
set_option maxHeartbeats 400000 in
theorem isDigit_c (c:UInt8) (w:World):Calls Tryz.prog 88 #[.int .u8 c.toNat] w fun e w'=>e = .returned (.bool (digB c)) ∧ w = w':=by
 have hu:c.toNat < 256:=c.toNat_lt
 by_cases h:48 ≤ c.toNat
 all_goals
  go_enter Tryz.func88,Tryz.ntmps88
  go_wp2
  go_ret
  exact ⟨ret_bool (by first | (simp [digB,h]; done) | (rw [Bool.eq_iff_iff]; simp [digB]; omega)),rfl⟩
set_option maxHeartbeats 400000 in
theorem isCapital_c (c:UInt8) (w:World):Calls Tryz.prog 89 #[.int .u8 c.toNat] w fun e w'=>e = .returned (.bool (capB c)) ∧ w = w':=by
 have hu:c.toNat < 256:=c.toNat_lt
 by_cases h:65 ≤ c.toNat
 all_goals
  go_enter Tryz.func89,Tryz.ntmps89
  go_wp2
  go_ret
  exact ⟨ret_bool (by first | (simp [capB,h]; done) | (rw [Bool.eq_iff_iff]; simp [capB]; omega)),rfl⟩
set_option maxHeartbeats 1000000 in
theorem IsNumber_c (s:ByteArray) (w:World) (hs:s.size ≤ 140737488355328):Calls Tryz.prog 45 #[.string s] w fun e w'=>e = .returned (.bool (numB s)) ∧ w = w':=by
 go_enter Tryz.func45,Tryz.ntmps45
 go_wp2
 go_loop [3] (fun i=>∃ k:Nat,k ≤ s.size ∧ i = .int .i64 k ∧ Hid (∀ x ∈ s.data.toList.take k,digB x = true)) (fun i=>s.size - (intOf i).toNat)
 case atStart=>exact ⟨0,Nat.zero_le _,rfl,by intro x hx; simp at hx⟩
 case round=>
  obtain ⟨k,hk,rfl,HN⟩:=hrel
  have hgo:(∃ hlt:k < s.size,digB s[k] = true) ∨ ((∃ hlt:k < s.size,digB s[k] = false) ∨ k = s.size):=by
   by_cases hlt:k < s.size
   ·cases h:digB s[k] with
    | true=>exact .inl ⟨hlt,h⟩
    | false=>exact .inr (.inl ⟨hlt,h⟩)
   ·exact .inr (.inr (by omega))
  rcases hgo with ⟨hlt,hd⟩ | hgo
  ·have HD:=Lib.hid hd
   clear hd
   go_wp2_with fail
   refine (isDigit_c _ _).mono ?_
   rintro e w' ⟨rfl,rfl⟩
   rw [HD.out]
   go_wp2
   go_round
   case rel=>exact ⟨k + 1,by omega,intNum,allB_next hlt HN.out HD.out⟩
   case measure=>simp [intOf]; omega
  ·have HK:=Lib.hid (show numK s = k from numK_eq HN.out hk (fun hlt=>by
    rcases hgo with ⟨_,h⟩ | h
    ·exact h
    ·omega))
   have hgo2:(∃ hlt:k < s.size,Hid (digB s[k] = false)) ∨ ¬ k < s.size:=by
    rcases hgo with ⟨h1,h2⟩ | h
    ·exact .inl ⟨h1,h2⟩
    ·exact .inr (by omega)
   clear hgo
   rcases hgo2 with ⟨hlt,HD⟩ | hlt
   ·go_wp2_with fail
    refine (isDigit_c _ _).mono ?_
    rintro e w' ⟨rfl,rfl⟩
    rw [HD.out]
    clear HD HN
    go_wp2_with fail
    obtain ⟨t,ht⟩:∃ t,t = s.extract k s.size:=⟨_,rfl⟩
    rw [← ht]
    have hts:t.size = s.size - k:=by rw [ht]; simp
    rw [← hts]
    have HT:=Lib.hid (show t.data.toList = s.data.toList.drop k by rw [ht,extract_end])
    have HTS:=Lib.hid hts
    have hts2:t.size + k ≤ s.size:=by omega
    clear ht hts
    go_loop [5,23] (fun _ i=>∃ j:Nat,j ≤ t.size ∧ i = .int .i64 j ∧ Hid (∀ x ∈ t.data.toList.take j,capB x = true)) (fun _ i=>t.size - (intOf i).toNat)
    case atStart=>exact ⟨0,Nat.zero_le _,rfl,by intro x hx; simp at hx⟩
    case round=>
     obtain ⟨j,hj,rfl,HC⟩:=hrel
     by_cases hjt:j < t.size
     ·cases hc:capB t[j] with
      | true=>
       have HV:=Lib.hid hc
       clear hc
       go_wp2_with fail
       refine (isCapital_c _ _).mono ?_
       rintro e w' ⟨rfl,rfl⟩
       rw [HV.out]
       go_wp2
       go_round
       case rel=>exact ⟨j + 1,by omega,intNum,allB_next hjt HC.out HV.out⟩
       case measure=>simp [intOf]; omega
      | false=>
       have HV:=Lib.hid hc
       have HB:=Lib.hid (show numB s = false by
        have h1:allB capB t = false:=allB_no hjt hc
        unfold allB at h1
        unfold numB
        rw [HK.out,← HT.out,h1]; rfl)
       clear hc
       go_wp2_with fail
       refine (isCapital_c _ _).mono ?_
       rintro e w' ⟨rfl,rfl⟩
       rw [HV.out]
       go_wp2
       go_ret
       exact ⟨ret_bool HB.out.symm,rfl⟩
     ·have HA:=Lib.hid (show (s.data.toList.drop k).all capB = true by rw [← HT.out]; exact allB_yes hjt HC.out)
      have HE:numB s = (decide (t.size ≤ 5) && !Lib.hasSuffix t.data.toList [65] && (if s.data.toList.take k = [48] then decide (k < s.size) else decide (1 ≤ k) && decide (k ≤ 3) && decide (s.data.toList.head? ≠ some 48))):=by
       unfold numB
       rw [HK.out,HA.out,HT.out,HTS.out]; rfl
      have HN2:=Lib.hid HE
      clear HE
      by_cases h5:t.size ≤ 5
      ·cases hsf:Lib.hasSuffix t.data.toList [65] with
       | true=>
        have HS:=Lib.hid hsf
        have HB:=Lib.hid (show numB s = false by rw [HN2.out,hsf]; simp)
        clear hsf
        go_wp2_with fail
        refine (Tryz.strings_HasSuffix t _ _ (by omega)).mono ?_
        rintro e w' ⟨rfl,rfl⟩
        rw [HS.out]
        go_wp2
        go_ret
        exact ⟨ret_bool HB.out.symm,rfl⟩
       | false=>
        have HS:=Lib.hid hsf
        have HB:=Lib.hid (show numB s = (if s.data.toList.take k = [48] then decide (k < s.size) else decide (1 ≤ k) && decide (k ≤ 3) && decide (s.data.toList.head? ≠ some 48)) by rw [HN2.out,hsf]; simp [h5])
        clear hsf
        by_cases h48:s.data.toList.take k = [48]
        ·have h48':((s.extract 0 k).toList == [48]) = true:=by rw [ByteArray.toList_eq,extract_list]; simpa using h48
         have H48:=Lib.hid h48
         have hk1:k = 1:=by
          have:=congrArg List.length h48
          simp at this; omega
         by_cases hlt2:k < s.size
         ·try (exfalso; omega)
          all_goals
           have HV:=Lib.hid (show numB s = true by rw [HB.out,if_pos H48.out]; simp [hlt2])
           have hne:t.toList.isEmpty = false:=by
            rw [ByteArray.toList_eq,HT.out]
            cases hd:s.data.toList.drop k with
            | nil=>
             have:=congrArg List.length hd
             simp at this; omega
            | cons y u=>rfl
           clear h48 hk1
           go_wp2_with fail
           refine (Tryz.strings_HasSuffix t _ _ (by omega)).mono ?_
           rintro e w' ⟨rfl,rfl⟩
           rw [HS.out]
           go_wp2
           go_ret
           exact ⟨ret_bool HV.out.symm,rfl⟩
         ·try (exfalso; omega)
          all_goals
           have HV:=Lib.hid (show numB s = false by rw [HB.out,if_pos H48.out]; simp; omega)
           have hne:t.toList = []:=by
            rw [ByteArray.toList_eq,HT.out]
            exact List.drop_eq_nil_of_le (by simp; omega)
           have hne':t.toList.isEmpty = true:=by rw [hne]; rfl
           have HNE:=Lib.hid hne
           clear h48 hk1 hne
           go_wp2_with fail
           refine (Tryz.strings_HasSuffix t _ _ (by omega)).mono ?_
           rintro e w' ⟨rfl,rfl⟩
           rw [HS.out]
           go_wp2
           go_ret
           exact ⟨ret_bool HV.out.symm,rfl⟩
        ·have h48':((s.extract 0 k).toList == [48]) = false:=by rw [ByteArray.toList_eq,extract_list]; simpa using h48
         have HX:=Lib.hid (show numB s = (decide (1 ≤ k) && decide (k ≤ 3) && decide (s.data.toList.head? ≠ some 48)) by rw [HB.out,if_neg h48])
         clear h48
         by_cases hk1:1 ≤ k
         ·have hs0:0 < s.size:=by omega
          have HH:=Lib.hid (show s.data.toList.head? = some s[0] by rw [List.head?_eq_getElem?]; simp [hs0]; rfl)
          have hu:s[0].toNat < 256:=s[0].toNat_lt
          by_cases hk3:k ≤ 3
          ·by_cases h0:s[0].toNat = 48
           ·have HV:=Lib.hid (show numB s = false by
             rw [HX.out,HH.out,show s[0] = 48 from UInt8.toNat_inj.1 h0]; simp)
            have HO:=Lib.hid h0
            have h0':((s[0].toNat:Int) != 48) = false:=by rw [h0]; rfl
            clear h0
            go_wp2_with fail
            refine (Tryz.strings_HasSuffix t _ _ (by omega)).mono ?_
            rintro e w' ⟨rfl,rfl⟩
            rw [HS.out]
            go_wp2
            go_ret
            exact ⟨ret_bool HV.out.symm,rfl⟩
           ·have HV:=Lib.hid (show numB s = true by
             rw [HX.out,HH.out]
             have:s[0] ≠ 48:=fun e=>h0 (by rw [e]; rfl)
             simp [hk1,hk3,this])
            have h0':((s[0].toNat:Int) != 48) = true:=by rw [bne_iff_ne]; omega
            go_wp2_with fail
            refine (Tryz.strings_HasSuffix t _ _ (by omega)).mono ?_
            rintro e w' ⟨rfl,rfl⟩
            rw [HS.out]
            go_wp2
            go_ret
            exact ⟨ret_bool HV.out.symm,rfl⟩
          ·have HV:=Lib.hid (show numB s = false by rw [HX.out]; simp [hk3])
           go_wp2_with fail
           refine (Tryz.strings_HasSuffix t _ _ (by omega)).mono ?_
           rintro e w' ⟨rfl,rfl⟩
           rw [HS.out]
           go_wp2
           go_ret
           exact ⟨ret_bool HV.out.symm,rfl⟩
         ·try (exfalso; omega)
          all_goals
           have HV:=Lib.hid (show numB s = false by rw [HX.out]; simp [hk1])
           go_wp2_with fail
           refine (Tryz.strings_HasSuffix t _ _ (by omega)).mono ?_
           rintro e w' ⟨rfl,rfl⟩
           rw [HS.out]
           go_wp2
           go_ret
           exact ⟨ret_bool HV.out.symm,rfl⟩
      ·try (exfalso; omega)
       all_goals
        have HB:=Lib.hid (show numB s = false by rw [HN2.out]; simp [h5])
        go_wp2
        go_ret
        exact ⟨ret_bool HB.out.symm,rfl⟩
   ·go_wp2_with fail
    obtain ⟨t,ht⟩:∃ t,t = s.extract k s.size:=⟨_,rfl⟩
    rw [← ht]
    have hts:t.size = s.size - k:=by rw [ht]; simp
    rw [← hts]
    have HT:=Lib.hid (show t.data.toList = s.data.toList.drop k by rw [ht,extract_end])
    have HTS:=Lib.hid hts
    have hts2:t.size + k ≤ s.size:=by omega
    clear ht hts
    go_loop [5,23] (fun _ i=>∃ j:Nat,j ≤ t.size ∧ i = .int .i64 j ∧ Hid (∀ x ∈ t.data.toList.take j,capB x = true)) (fun _ i=>t.size - (intOf i).toNat)
    case atStart=>exact ⟨0,Nat.zero_le _,rfl,by intro x hx; simp at hx⟩
    case round=>
     obtain ⟨j,hj,rfl,HC⟩:=hrel
     by_cases hjt:j < t.size
     ·cases hc:capB t[j] with
      | true=>
       have HV:=Lib.hid hc
       clear hc
       go_wp2_with fail
       refine (isCapital_c _ _).mono ?_
       rintro e w' ⟨rfl,rfl⟩
       rw [HV.out]
       go_wp2
       go_round
       case rel=>exact ⟨j + 1,by omega,intNum,allB_next hjt HC.out HV.out⟩
       case measure=>simp [intOf]; omega
      | false=>
       have HV:=Lib.hid hc
       have HB:=Lib.hid (show numB s = false by
        have h1:allB capB t = false:=allB_no hjt hc
        unfold allB at h1
        unfold numB
        rw [HK.out,← HT.out,h1]; rfl)
       clear hc
       go_wp2_with fail
       refine (isCapital_c _ _).mono ?_
       rintro e w' ⟨rfl,rfl⟩
       rw [HV.out]
       go_wp2
       go_ret
       exact ⟨ret_bool HB.out.symm,rfl⟩
     ·have HA:=Lib.hid (show (s.data.toList.drop k).all capB = true by rw [← HT.out]; exact allB_yes hjt HC.out)
      have HE:numB s = (decide (t.size ≤ 5) && !Lib.hasSuffix t.data.toList [65] && (if s.data.toList.take k = [48] then decide (k < s.size) else decide (1 ≤ k) && decide (k ≤ 3) && decide (s.data.toList.head? ≠ some 48))):=by
       unfold numB
       rw [HK.out,HA.out,HT.out,HTS.out]; rfl
      have HN2:=Lib.hid HE
      clear HE
      by_cases h5:t.size ≤ 5
      ·cases hsf:Lib.hasSuffix t.data.toList [65] with
       | true=>
        have HS:=Lib.hid hsf
        have HB:=Lib.hid (show numB s = false by rw [HN2.out,hsf]; simp)
        clear hsf
        go_wp2_with fail
        refine (Tryz.strings_HasSuffix t _ _ (by omega)).mono ?_
        rintro e w' ⟨rfl,rfl⟩
        rw [HS.out]
        go_wp2
        go_ret
        exact ⟨ret_bool HB.out.symm,rfl⟩
       | false=>
        have HS:=Lib.hid hsf
        have HB:=Lib.hid (show numB s = (if s.data.toList.take k = [48] then decide (k < s.size) else decide (1 ≤ k) && decide (k ≤ 3) && decide (s.data.toList.head? ≠ some 48)) by rw [HN2.out,hsf]; simp [h5])
        clear hsf
        by_cases h48:s.data.toList.take k = [48]
        ·have h48':((s.extract 0 k).toList == [48]) = true:=by rw [ByteArray.toList_eq,extract_list]; simpa using h48
         have H48:=Lib.hid h48
         have hk1:k = 1:=by
          have:=congrArg List.length h48
          simp at this; omega
         by_cases hlt2:k < s.size
         ·try (exfalso; omega)
          all_goals
           have HV:=Lib.hid (show numB s = true by rw [HB.out,if_pos H48.out]; simp [hlt2])
           have hne:t.toList.isEmpty = false:=by
            rw [ByteArray.toList_eq,HT.out]
            cases hd:s.data.toList.drop k with
            | nil=>
             have:=congrArg List.length hd
             simp at this; omega
            | cons y u=>rfl
           clear h48 hk1
           go_wp2_with fail
           refine (Tryz.strings_HasSuffix t _ _ (by omega)).mono ?_
           rintro e w' ⟨rfl,rfl⟩
           rw [HS.out]
           go_wp2
           go_ret
           exact ⟨ret_bool HV.out.symm,rfl⟩
         ·try (exfalso; omega)
          all_goals
           have HV:=Lib.hid (show numB s = false by rw [HB.out,if_pos H48.out]; simp; omega)
           have hne:t.toList = []:=by
            rw [ByteArray.toList_eq,HT.out]
            exact List.drop_eq_nil_of_le (by simp; omega)
           have hne':t.toList.isEmpty = true:=by rw [hne]; rfl
           have HNE:=Lib.hid hne
           clear h48 hk1 hne
           go_wp2_with fail
           refine (Tryz.strings_HasSuffix t _ _ (by omega)).mono ?_
           rintro e w' ⟨rfl,rfl⟩
           rw [HS.out]
           go_wp2
           go_ret
           exact ⟨ret_bool HV.out.symm,rfl⟩
        ·have h48':((s.extract 0 k).toList == [48]) = false:=by rw [ByteArray.toList_eq,extract_list]; simpa using h48
         have HX:=Lib.hid (show numB s = (decide (1 ≤ k) && decide (k ≤ 3) && decide (s.data.toList.head? ≠ some 48)) by rw [HB.out,if_neg h48])
         clear h48
         by_cases hk1:1 ≤ k
         ·have hs0:0 < s.size:=by omega
          have HH:=Lib.hid (show s.data.toList.head? = some s[0] by rw [List.head?_eq_getElem?]; simp [hs0]; rfl)
          have hu:s[0].toNat < 256:=s[0].toNat_lt
          by_cases hk3:k ≤ 3
          ·by_cases h0:s[0].toNat = 48
           ·have HV:=Lib.hid (show numB s = false by
             rw [HX.out,HH.out,show s[0] = 48 from UInt8.toNat_inj.1 h0]; simp)
            have HO:=Lib.hid h0
            have h0':((s[0].toNat:Int) != 48) = false:=by rw [h0]; rfl
            clear h0
            go_wp2_with fail
            refine (Tryz.strings_HasSuffix t _ _ (by omega)).mono ?_
            rintro e w' ⟨rfl,rfl⟩
            rw [HS.out]
            go_wp2
            go_ret
            exact ⟨ret_bool HV.out.symm,rfl⟩
           ·have HV:=Lib.hid (show numB s = true by
             rw [HX.out,HH.out]
             have:s[0] ≠ 48:=fun e=>h0 (by rw [e]; rfl)
             simp [hk1,hk3,this])
            have h0':((s[0].toNat:Int) != 48) = true:=by rw [bne_iff_ne]; omega
            go_wp2_with fail
            refine (Tryz.strings_HasSuffix t _ _ (by omega)).mono ?_
            rintro e w' ⟨rfl,rfl⟩
            rw [HS.out]
            go_wp2
            go_ret
            exact ⟨ret_bool HV.out.symm,rfl⟩
          ·have HV:=Lib.hid (show numB s = false by rw [HX.out]; simp [hk3])
           go_wp2_with fail
           refine (Tryz.strings_HasSuffix t _ _ (by omega)).mono ?_
           rintro e w' ⟨rfl,rfl⟩
           rw [HS.out]
           go_wp2
           go_ret
           exact ⟨ret_bool HV.out.symm,rfl⟩
         ·try (exfalso; omega)
          all_goals
           have HV:=Lib.hid (show numB s = false by rw [HX.out]; simp [hk1])
           go_wp2_with fail
           refine (Tryz.strings_HasSuffix t _ _ (by omega)).mono ?_
           rintro e w' ⟨rfl,rfl⟩
           rw [HS.out]
           go_wp2
           go_ret
           exact ⟨ret_bool HV.out.symm,rfl⟩
      ·try (exfalso; omega)
       all_goals
        have HB:=Lib.hid (show numB s = false by rw [HN2.out]; simp [h5])
        go_wp2
        go_ret
        exact ⟨ret_bool HB.out.symm,rfl⟩
end Go.Proofs.YtaoobkgepcikiaaGreatDoor
