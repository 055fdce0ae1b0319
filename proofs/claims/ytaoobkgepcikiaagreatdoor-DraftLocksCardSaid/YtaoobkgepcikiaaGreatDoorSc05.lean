/- Texts packed: BetwX. -/
import Derived.Test.YtaoobkgepcikiaaGreatDoorSc04
import Derived.Test.YtaoobkgepcikiaaGreatDoorSc02
import Derived.Test.YtaoobkgepcikiaaGreatDoorSc01
namespace Go.Proofs.YtaoobkgepcikiaaGreatDoor
set_option linter.unusedVariables false
open Go.RowKit Go.Sort
def BetwP (w:World) (e:Ending) (w':World):Prop:=∃ (z:ByteArray) (b:Bool),e = .returned (.tuple #[.string z,.bool b]) ∧ z.size ≤ 30 ∧ Below w.heap.size w w'
def Txts (w wx:World) (m:Nat) (v:Value):Prop:=∃ l:List ByteArray,Own strR wx w.heap.size w.heap.size 9 l v ∧ (∀ x ∈ l,x.size ≤ 30) ∧ l.length ≤ m ∧ Below w.heap.size w wx
theorem okI_w64 (n:Int):okI (wrap64 n):=by unfold okI wrap64; omega
theorem Txts.one {w wx wy:World} {l:List ByteArray} {v v':Value} {x:ByteArray} {m:Nat} {o:Obj} (hown:Own strR wy w.heap.size w.heap.size 9 (l ++ [x]) v') (hx:x.size ≤ 30) (hl:∀ x ∈ l,x.size ≤ 30) (hm:l.length + 1 ≤ m) (hb:Below w.heap.size w wx) (hg:(wx.alloc o).grownBy wy v.ownBlock) (hv:∀ g,v.ownBlock = some g → w.heap.size ≤ g):Txts w wy m v':=
 ⟨l ++ [x],hown,fun y hy=>by
  rcases List.mem_append.1 hy with h | h
  ·exact hl y h
  ·rw [List.mem_singleton] at h; subst h; exact hx,by simpa using hm,(hb.alloc hb.size o).grown hg (by have:=hb.size; simp; omega) (fun k hk=>hv k hk)⟩
set_option maxRecDepth 100000 in
set_option maxHeartbeats 8000000 in
theorem BetweenOf_any (sb:Nat) (a b:ByteArray) (w:World) (ha:a.size ≤ 1000) (hb:b.size ≤ 1000) (hl:LaidS sb w) (hsb:sb ≤ w.heap.size):Calls Tryz.prog 16 #[.string a,.string b] w (BetwP w):=by
 have HL:=Lib.hid hl
 clear hl
 obtain ⟨i0,hi0,hz0,hz1,hz2⟩:=info_parts (show (Tryz.prog.info? 9).map (fun i=>(i.zero,i.size,i.bytes)) = some (some (.string ⟨#[]⟩),1,16) by kernel_rfl)
 go_enter Tryz.func16,Tryz.ntmps16
 go_wp2_with fail
 refine (halved_c a _ (by omega)).mono ?_
 rintro e w1 ⟨rfl,hb1⟩
 have HB1:=Lib.hid hb1
 clear hb1
 have hk1:=numK_le a
 generalize hA1:a.extract 0 (numK a) = d
 generalize hA2:a.extract (numK a) a.size = c
 have z1:d.size ≤ 1000:=by rw [← hA1,ByteArray.size_extract]; omega
 have z2:c.size ≤ 1000:=by rw [← hA2,ByteArray.size_extract]; omega
 clear hA1 hA2 hk1
 go_wp2_with fail
 refine (atoi_o d _ (by omega) (HL.out.errs.below HB1.out (Nat.le_refl _))).mono ?_
 rintro e w3 ⟨at_,v3,hat,h3,rfl,hb3⟩
 have HB3:=Lib.hid (HB1.out.trans (hb3.mono HB1.out.size))
 clear hb3 HB1 h3
 go_wp2
 go_loopw [10] (fun i wr=>∃ k:Nat,k ≤ 6 ∧ i = .int .i64 k ∧ Hid (Below w.heap.size w wr)) (fun i _=>6 - (intOf i).toNat)
 case atStart=>exact ⟨0,by omega,rfl,HB3⟩
 case round=>
  clear HB3
  obtain ⟨k,hk,rfl,HB⟩:=hrel
  have hwz:=HB.out.size
  by_cases hlt:k ≤ 5
  ·go_upto_if 33 with (fail)
   go_cut [11] (fun v wx=>Hid (Txts w wx 2 v))
   case first=>
    by_cases hk0:k = 0
    ·have e0:((k:Int) == 0) = true:=by rw [beq_iff_eq]; omega
     clear hk0
     go_wp2_with fail
     have hcc:=itoa_c (wrap64 (at_ + 1)) wr (okI_w64 _) (pow_below HL.out.pow HB.out (Nat.le_refl _))
     with_reducible refine hcc.mono ?_
     clear hcc
     rintro e w4 ⟨rfl,hb4⟩
     have HB4:=Lib.hid (HB.out.trans (hb4.mono HB.out.size))
     have hs4:=itoa_sz _ (okI_w64 (at_ + 1))
     generalize hI:(⟨(Lib.itoa (wrap64 (at_ + 1))).toArray⟩:ByteArray) = I4 at *
     have hz4:=HB4.out.size
     clear hb4 hI
     go_wp2_with (at_builtin; (refine wpList_pushB (R:=strR) rfl _ _ _ rfl w.heap.size w.heap.size 9 i0 _ 16 Tryz.underlying31 hi0 hz0 (by assumption) (by assumption) rfl (by decide) _ (.slice none 0 0) [] rfl Own.nil_ I4 _ rfl (oneC rfl) w4.heap.size _ _ (heap_alloc_new w4 _) rfl (by simp [maxLen]) (by simp) (by simp; omega) ?_); intro g cap w7 hown7 hg7 hat7 hlt7)
     go_meet
     exact Lib.hid (Txts.one hown7 (by omega) (by simp) (by simp) HB4.out hg7 (fun g h=>by cases h))
    ·have e0:((k:Int) == 0) = false:=by rw [beq_eq_false_iff_ne]; omega
     go_wp2_with fail
     refine (nextCapitals_c c k _ (by omega) (by omega) (by omega)).mono ?_
     rintro e w4 ⟨z4,b4,rfl,hz4,hb4⟩
     have HB4:=Lib.hid (HB.out.trans (hb4.mono HB.out.size))
     have hs4:=HB4.out.size
     clear hb4
     go_upto_if 46 with (fail)
     go_cut [11] (fun v wx=>Hid (Txts w wx 1 v))
     case first=>
      cases b4 with
      | false=>
       go_wp2
       go_meet
       exact Lib.hid ⟨[],Own.nil_,by simp,by simp,HB4.out⟩
      | true=>
       go_wp2_with fail
       have hcc:=itoa_c at_ w4 hat (pow_below HL.out.pow HB4.out (Nat.le_refl _))
       with_reducible refine hcc.mono ?_
       clear hcc
       rintro e w5 ⟨rfl,hb5⟩
       have HB5:=Lib.hid (HB4.out.trans (hb5.mono HB4.out.size))
       have hs5:=itoa_sz _ hat
       generalize hI:(⟨(Lib.itoa at_).toArray⟩:ByteArray) = I4 at *
       have hz5:=HB5.out.size
       have hz6:(I4 ++ z4).size = I4.size + z4.size:=ByteArray.size_append
       clear hb5 hI
       go_wp2_with (at_builtin; (refine wpList_pushB (R:=strR) rfl _ _ _ rfl w.heap.size w.heap.size 9 i0 _ 16 Tryz.underlying31 hi0 hz0 (by assumption) (by assumption) rfl (by decide) _ (.slice none 0 0) [] rfl Own.nil_ (I4 ++ z4) _ rfl (oneC rfl) w5.heap.size _ _ (heap_alloc_new w5 _) rfl (by simp [maxLen]) (by simp) (by simp; omega) ?_); intro g cap w7 hown7 hg7 hat7 hlt7)
       go_meet
       exact Lib.hid (Txts.one hown7 (by omega) (by simp) (by simp) HB5.out hg7 (fun g h=>by cases h))
     case rest=>
      clear HB4 hs4
      obtain ⟨l,hown,hlx,hlm,hb5⟩:=hcut.out
      have HO:=Lib.hid hown
      have HB5:=Lib.hid hb5
      have HX:=Lib.hid hlx
      clear hown hb5 hlx
      have hs5:=HB5.out.size
      go_wp2_with fail
      refine (nextCapitals_c ⟨#[]⟩ k _ (by decide) (by omega) (by omega)).mono ?_
      rintro e w6 ⟨z6,b6,rfl,hz6,hb6⟩
      have HO6:=Lib.hid (HO.out.below hb6)
      have HB6:=Lib.hid (HB5.out.trans (hb6.mono HB5.out.size))
      have hs6:=HB6.out.size
      clear hb6 HB5 HO
      go_upto_if 59 with (fail)
      go_cut [11] (fun v wx=>Hid (Txts w wx 2 v))
      case first=>
       cases b6 with
       | false=>
        go_wp2
        go_meet
        exact Lib.hid ⟨l,HO6.out,HX.out,by omega,HB6.out⟩
       | true=>
        go_wp2_with fail
        have hcc:=itoa_c (wrap64 (at_ + 1)) w6 (okI_w64 _) (pow_below HL.out.pow HB6.out (Nat.le_refl _))
        with_reducible refine hcc.mono ?_
        clear hcc
        rintro e w7 ⟨rfl,hb7⟩
        have HO7:=Lib.hid (HO6.out.below hb7)
        have HB7:=Lib.hid (HB6.out.trans (hb7.mono HB6.out.size))
        have hs7:=itoa_sz _ (okI_w64 (at_ + 1))
        generalize hI:(⟨(Lib.itoa (wrap64 (at_ + 1))).toArray⟩:ByteArray) = I4 at *
        have hz7:=HB7.out.size
        have hz8:(I4 ++ z6).size = I4.size + z6.size:=ByteArray.size_append
        clear hb7 hI HO6 HB6
        obtain ⟨A5,c5,hv,hc51,hc52⟩:=(HO7.out.sli (F:=fun _=>True) (fun _ _ _=>trivial) (fun _ _=>trivial)).form
        clear hc51 hc52
        subst hv
        go_wp2_with (at_builtin; (refine wpList_pushB (R:=strR) rfl _ _ _ rfl w.heap.size w.heap.size 9 i0 _ 16 Tryz.underlying31 hi0 hz0 (by assumption) (by assumption) rfl (by decide) _ (.slice A5 l.length c5) l rfl (HO7.out.alloc _) (I4 ++ z6) _ rfl (oneC rfl) w7.heap.size _ _ (heap_alloc_new w7 _) rfl (by simp [maxLen]; omega) (by omega) (by simp; omega) ?_); intro g cap w8 hown8 hg8 hat8 hlt8)
        go_meet
        exact Lib.hid (Txts.one hown8 (by omega) HX.out (by omega) HB7.out hg8 (fun g h=>(HO7.out.block g h).1))
      case rest=>
       go_wp2
       go_meet
       exact hcut
   case rest=>
    obtain ⟨l,hown,hlx,hlm,hb5⟩:=hcut.out
    have HS:=Lib.hid (hown.sli (F:=fun q=>q < wc.heap.size) (fun q _ h=>h) (fun g hg=>(hown.block g hg).2))
    obtain ⟨A5,c5,hv,hc51,hc52⟩:=HS.out.form
    subst hv
    have HX:=Lib.hid hlx
    have HB5:=Lib.hid hb5
    clear hown hlx hb5 hcut
    have hs5:=HB5.out.size
    go_wp2
    go_loopw [70,17] (fun i _ wr=>∃ j:Nat,j ≤ l.length ∧ i = .int .i64 j ∧ Hid (Below w.heap.size w wr) ∧ Hid (Below wc.heap.size wc wr)) (fun i _ _=>l.length - (intOf i).toNat)
    case atStart=>exact ⟨0,by omega,rfl,HB5,Lib.hid (Below.refl _ _)⟩
    case round=>
     obtain ⟨j,hj,rfl,HB,HC⟩:=hrel
     by_cases hjl:j < l.length
     ·obtain ⟨b0,off,rfl,hb0,hcell⟩:=str_at (HS.out.below HC.out (fun _ h=>h)) j hjl
      have hx30:=HX.out _ (List.getElem_mem hjl)
      generalize l[j] = x at *
      have hs6:=HB.out.size
      go_upto_region 18 with (fail)
      go_cut [85] (fun v wx=>∃ bb:Bool,v = .bool bb ∧ Hid (Below wr.heap.size wr wx))
      case first=>
       go_wp2_with fail
       refine (NumberOf_c x _ (by omega)).mono ?_
       rintro e w6 ⟨rfl,hb6⟩
       have HB6:=Lib.hid hb6
       clear hb6
       cases hnb:numB x with
       | false=>
        go_wp2
        go_meet
        exact ⟨_,rfl,HB6⟩
       | true=>
        cases hbe:b.toList.isEmpty with
        | true=>
         go_wp2
         go_meet
         exact ⟨_,rfl,HB6⟩
        | false=>
         go_wp2_with fail
         refine (NumbersOrder_any x b _ (by omega) (by omega) (HL.out.errs.below (HB.out.trans (HB6.out.mono HB.out.size)) (Nat.le_refl _))).mono ?_
         rintro e w7 ⟨z7,rfl,hb7⟩
         have HB7:=Lib.hid (HB6.out.trans (hb7.mono HB6.out.size))
         clear hb7
         go_wp2
         go_meet
         exact ⟨_,rfl,HB7⟩
      case rest=>
       obtain ⟨bb,rfl,HW⟩:=hcut
       cases bb with
       | true=>
        go_wp2
        go_ret2
        exact ⟨_,_,rfl,hx30,HB.out.trans (HW.out.mono HB.out.size)⟩
       | false=>
        go_wp2
        go_roundw
        case rel=>exact ⟨j + 1,by omega,intNum,Lib.hid (HB.out.trans (HW.out.mono HB.out.size)),Lib.hid (HC.out.trans (HW.out.mono HC.out.size))⟩
        all_goals (try (simp [intOf] <;> omega))
     ·go_wp2
      go_roundw
      case rel=>exact ⟨k + 1,by omega,intNum,HB⟩
      all_goals (try (simp [intOf] <;> omega))
  ·go_wp2
   go_ret2
   exact ⟨_,_,rfl,by decide,HB.out⟩
end Go.Proofs.YtaoobkgepcikiaaGreatDoor
