/- Texts packed: StoryA. -/
import Derived.Test.YtaoobkgepcikiaaGreatDoorSc01
import Derived.Test.YtaoobkgepcikiaaGreatDoorSc02
import Derived.RegionTactic
import Derived.Deep.RegionHeld3
import Derived.Deep.DeepCutAuto
namespace Go.Proofs.YtaoobkgepcikiaaGreatDoor
set_option linter.unusedVariables false
open Go.RowKit Go.Sort
theorem onePos {l:List ByteArray} {x:ByteArray} (h:(l.all fun x=>decide (0 < x.size)) = true) (hx:x ∈ l):0 < x.size:=by
 rw [List.all_eq_true] at h; simpa using h x hx
set_option maxHeartbeats 1600000 in
theorem gwords_c (sb:Nat) (k0 most bytes:Int) (w:World) (hs:Str w sb k0) (hk0:k0 ≤ 4000000000000000000) (hm1:1 ≤ most) (hm2:most ≤ 1000) (hb1:62 ≤ bytes) (hb2:bytes ≤ 100000) :
  Calls Tryz.prog 124 #[.pointer (some ⟨sb,0,none⟩),.int .i64 most,.int .i64 bytes] w (Took sb k0 1001 (isStr (fun x=>(x.size:Int) ≤ bytes ∧ 0 < x.size)) w):=by
 have S0:=Lib.hid hs
 clear hs
 go_enter Tryz.func124,Tryz.ntmps124
 go_wp2_with fail
 refine (range_c sb k0 1 most _ S0.out (by omega) hm1 (by omega) (by omega)).mono ?_
 rintro e w1 ⟨v1,n1,rfl,⟨m1,⟨hm1',hm2'⟩,rfl⟩,hn1,hs1,hg1⟩
 obtain ⟨m,rfl⟩:=Int.eq_ofNat_of_zero_le (show 0 ≤ m1 by omega)
 have S1:=Lib.hid hs1
 have G1:=Lib.hid hg1
 clear hs1 hg1
 go_wp2
 go_loopw [7,12] (fun t i wr=>∃ (k:Nat) (x:ByteArray) (n:Int),k ≤ m ∧ i = .int .i64 k ∧ t = .string x ∧ (x.size:Int) ≤ bytes ∧ (k = 0 → x.size = 0) ∧ (0 < k → 0 < x.size) ∧ n ≤ k0 + 1 + k ∧ Hid (Str wr sb n) ∧ Hid (w.grownBy wr (some sb))) (fun _ i _=>m - (intOf i).toNat)
 case atStart=>exact ⟨0,⟨#[]⟩,n1,by omega,rfl,rfl,(by show (0:Int) ≤ bytes; omega),fun _=>rfl,fun h=>absurd h (Nat.lt_irrefl 0),by omega,S1.out,G1.out⟩
 case round=>
  obtain ⟨k,x,n,hk,rfl,rfl,hx,hxe,hxp,hn,HS,HG⟩:=hrel
  by_cases hlt:k < m
  ·go_wp2_with fail
   refine (oneL wr [⟨#[114,97,105,110]⟩,⟨#[84,119,111]⟩,⟨#[103,117,110,115]⟩,⟨#[65,78,78]⟩,⟨#[66,111]⟩,⟨#[97]⟩,⟨#[116,104,101]⟩,⟨#[114,101,100]⟩,⟨#[99,97,114,46]⟩,⟨#[115,111,108,100,105,101,114,115]⟩,⟨#[49,50]⟩,⟨#[100,111,110,39,116]⟩,⟨#[45,45]⟩,⟨#[97,98,99,100,101,102,103,104,105,106,107,108,109,110,111,112,113,114,115,116,117,118,119,120,121,122,97,98,99,100,101,102,103,104,105,106,107,108,109,110,111,112,113,114,115,116,117,118,119,120,121,122]⟩,⟨#[99,97,114]⟩] _ _ _ _ rfl rfl (by decide) (by decide) HS.out (by omega)).mono ?_
   rintro e w2 ⟨v2,n2,rfl,⟨y,hy,rfl⟩,hn2,hs2,hg2⟩
   have hy1:y.size ≤ 60:=oneOf (by decide +kernel) hy
   have hy0:0 < y.size:=onePos (by decide +kernel) hy
   have S2:=Lib.hid hs2
   have G2:=Lib.hid (gTrans HG.out (gTrans (gAlloc (gRefl wr sb) _) hg2))
   clear hs2 hg2 hy HS HG
   go_upto_if 18 with (fail)
   go_cut [8] (fun s wx=>∃ z:ByteArray,s = .string z ∧ z.size ≤ 61 ∧ 0 < z.size ∧ wx = w2)
   case first=>
    go_wp2
    all_goals
     go_meet
     first
      | exact ⟨y,rfl,by omega,hy0,rfl⟩
      | exact ⟨⟨#[32]⟩ ++ y,rfl,by rw [ByteArray.size_append]; show 1 + y.size ≤ 61; omega,by rw [ByteArray.size_append]; omega,rfl⟩
   case rest=>
    obtain ⟨z,rfl,hz,hz0,rfl⟩:=hcut
    have hzx:(x ++ z).size = x.size + z.size:=ByteArray.size_append
    by_cases ho:bytes < (x.size:Int) + z.size
    ·go_wp2
     go_ret
     exact ⟨_,n2,rfl,⟨x,⟨hx,hxp (by have:=hxe; omega)⟩,rfl⟩,by omega,S2.out,G2.out⟩
    ·have ho':(x.size:Int) + z.size ≤ bytes:=by omega
     go_wp2
     go_roundw
     case rel=>exact ⟨k + 1,x ++ z,n2,by omega,intNum,rfl,by omega,fun h=>by omega,fun _=>by omega,by omega,S2.out,G2.out⟩
     case measure=>simp [intOf]; omega
  ·go_wp2
   go_ret
   exact ⟨_,n,rfl,⟨x,⟨hx,hxp (by omega)⟩,rfl⟩,by omega,HS.out,HG.out⟩
def nameList:List ByteArray:=[⟨#[65,78,78]⟩,⟨#[66,79]⟩,⟨#[68,82,46,32,88]⟩,⟨#[65,78,78,45,77,65,82,73,69]⟩]
set_option maxHeartbeats 400000 in
theorem Names_c (w:World):Calls Tryz.prog 125 #[] w (fun e w'=>e = .returned (.slice (some ⟨w.heap.size,0,none⟩) 4 4) ∧ w' = w.alloc (.cells (nameList.map Value.string).toArray 9)):=by
 go_enter Tryz.func125,Tryz.ntmps125
 go_wp2
 go_ret
 exact ⟨rfl,rfl⟩
theorem paraMk {k:Int} {z:ByteArray} (hk:1 ≤ k ∧ k ≤ 5) (h0:0 < z.size) (hz:z.size ≤ 10000):paraBd ⟨k,z⟩:=⟨hk.1,hk.2,h0,hz⟩
theorem paraLit {w wx:World} (x:Para) (T:TypeId) (h:w.heap.size ≤ wx.heap.size):Sli paraR (wx.alloc (.cells #[.int .i64 x.kind,.string x.text] T)) (fun q=>w.heap.size ≤ q ∧ q < (wx.alloc (.cells #[.int .i64 x.kind,.string x.text] T)).heap.size) [x] (.slice (some ⟨wx.heap.size,0,none⟩) 1 1):=
 Sli.new (R:=paraR) (cs:=[.int .i64 x.kind,.string x.text]) T 1 (Lay.one (R:=paraR) rfl) ⟨h,by simp⟩ (by simp) (by omega)
theorem GS.lit {α:Type} {R:Rep α} {e:TypeId} {w wx:World} {sb:Nat} {n:Int} (x:α) (cs:List Value) (hn:cs.length = R.n) (hx:∀ w F,R.rel w F x cs) (hs:Str wx sb n) (hg:w.grownBy wx (some sb)) (hl:sb < w.heap.size):GS R e w sb [x] (.slice (some ⟨wx.heap.size,0,none⟩) 1 1) [] n (wx.alloc (.cells cs.toArray e)):=
 ⟨hs.alloc _,gAlloc hg _,⟨cs,⟨by simp [hn],.inr ⟨wx.heap.size,1,cs.toArray,rfl,hg.size,heap_alloc_new wx _,Nat.le_refl _,by decide,by simp [hn],by simp [← hn]⟩⟩,Lay.one (hx _ _)⟩,hl,fun p hp=>by cases hp⟩
set_option maxRecDepth 100000 in
set_option maxHeartbeats 6000000 in
theorem paras_c (sb:Nat) (k0:Int) (w:World) (hs:Str w sb k0) (hk0:k0 ≤ 3500000000000000000) :
  Calls Tryz.prog 71 #[.pointer (some ⟨sb,0,none⟩)] w (Took sb k0 5000 (fun v w'=>∃ l:List Para,Sli paraR w' (fun q=>w.heap.size ≤ q ∧ q < w'.heap.size) l v ∧ l.length ≤ 5 ∧ 0 < l.length ∧ ∀ p ∈ l,paraBd p) w):=by
 have S0:=Lib.hid hs
 have hsb:=hs.lt
 clear hs
 obtain ⟨i0,hi0,hz0,hz1,hz2⟩:=info_parts (show (Tryz.prog.info? 78).map (fun i=>(i.zero,i.size,i.bytes)) = some (some (.agg #[.int .i64 0,.string ⟨#[]⟩]),2,24) by kernel_rfl)
 go_enter Tryz.func71,Tryz.ntmps71
 go_wp2_with fail
 refine (next_c sb k0 6 _ S0.out (by omega) (by omega) (by omega)).mono ?_
 rintro e w1 ⟨v1,n1,rfl,⟨m1,hm0,hm1,rfl⟩,hn1,hs1,hg1⟩
 have S1:=Lib.hid hs1
 have G1:=Lib.hid hg1
 clear hs1 hg1
 have main:∀ x:Para,paraBd x → ∀ n:Int,n ≤ k0 + 2000 → ∀ wx:World,Str wx sb n → w.grownBy wx (some sb) → Took sb k0 5000 (fun v w'=>∃ l:List Para,Sli paraR w' (fun q=>w.heap.size ≤ q ∧ q < w'.heap.size) l v ∧ l.length ≤ 5 ∧ 0 < l.length ∧ ∀ p ∈ l,paraBd p) w (.returned (.slice (some ⟨wx.heap.size,0,none⟩) 1 1)) (wx.alloc (.cells #[.int .i64 x.kind,.string x.text] 78)):=by
  intro x hx n hn wx h1 h2
  exact ⟨_,n,rfl,⟨[x],paraLit x _ h2.size,by simp,by simp,by simpa using hx⟩,by omega,h1.alloc _,gAlloc h2 _⟩
 have HM:=Lib.hid main
 clear main
 by_cases hm01:m1 ≤ 1
 ·have hm:m1 = 0 ∨ m1 = 1:=by omega
  go_upto_region 4 with (fail)
  all_goals first | omega | skip
  all_goals
   go_wp2_with fail
   refine (pickL w1 [3,12,60] _ _ _ _ rfl rfl (by decide) (by decide) S1.out (by omega)).mono ?_
   rintro e w2 ⟨v2,n2,rfl,⟨y,hy,rfl⟩,hn2,hs2,hg2⟩
   have hyb:1 ≤ y ∧ y ≤ 1000:=by simp at hy; omega
   have S2:=Lib.hid hs2
   have G2:=Lib.hid (gTrans G1.out (gTrans (gAlloc (gRefl w1 sb) _) hg2))
   clear hs2 hg2 hy
   go_wp2_with fail
   refine (gwords_c sb n2 y 1998 _ S2.out (by omega) hyb.1 hyb.2 (by decide) (by decide)).mono ?_
   rintro e w3 ⟨v3,n3,rfl,⟨x3,hx3,rfl⟩,hn3,hs3,hg3⟩
   have S3:=Lib.hid hs3
   have G3:=Lib.hid (gTrans G2.out hg3)
   clear hs3 hg3
   go_wp2_with fail
   refine (flip_c sb n3 8 _ S3.out (by omega) (by decide) (by decide)).mono ?_
   rintro e w4 ⟨v4,n4,rfl,⟨b4,rfl⟩,hn4,hs4,hg4⟩
   have S4:=Lib.hid hs4
   have G4:=Lib.hid (gTrans G3.out hg4)
   clear hs4 hg4
   go_upto_if 17 with (fail)
   go_cut [3] (fun s wx=>∃ (z:ByteArray) (n:Int),s = .string z ∧ z.size ≤ 2010 ∧ 0 < z.size ∧ n ≤ k0 + 2000 ∧ Hid (Str wx sb n) ∧ Hid (w.grownBy wx (some sb)))
   case first=>
    cases b4 with
    | false=>
     go_wp2
     go_meet
     exact ⟨x3,n4,rfl,by omega,by omega,by omega,S4.out,G4.out⟩
    | true=>
     go_wp2_with fail
     refine (oneL w4 [⟨#[64]⟩,⟨#[62,32]⟩,⟨#[35,32]⟩,⟨#[92]⟩,⟨#[40]⟩,⟨#[35]⟩] _ _ _ _ rfl rfl (by decide) (by decide) S4.out (by omega)).mono ?_
     rintro e w5 ⟨v5,n5,rfl,⟨x5,hx5,rfl⟩,hn5,hs5,hg5⟩
     have b5:x5.size ≤ 2:=oneOf (by decide +kernel) hx5
     have S5:=Lib.hid hs5
     have G5:=Lib.hid (gTrans G4.out (gTrans (gAlloc (gRefl w4 sb) _) hg5))
     clear hs5 hg5 hx5
     go_wp2
     go_meet
     exact ⟨x5 ++ x3,n5,rfl,by rw [ByteArray.size_append]; omega,by rw [ByteArray.size_append]; omega,by omega,S5.out,G5.out⟩
   case rest=>
    obtain ⟨z,n,rfl,hz,hzp,hn,S5,G5⟩:=hcut
    go_wp2
    go_ret
    exact HM.out ⟨1,z⟩ (paraMk (by decide) (by omega) (by omega)) n hn _ S5.out G5.out
 ·by_cases hm2:m1 = 2
  ·subst hm2
   go_wp2_with fail
   refine (oneL w1 [⟨#[67,85,84,32,84,79]⟩,⟨#[70,65,68,69,32,79,85,84,46]⟩,⟨#[69,78,68]⟩,⟨#[65,78,78]⟩] _ _ _ _ rfl rfl (by decide) (by decide) S1.out (by omega)).mono ?_
   rintro e w2 ⟨v2,n2,rfl,⟨x2,hx2,rfl⟩,hn2,hs2,hg2⟩
   have b2:x2.size ≤ 10:=oneOf (by decide +kernel) hx2
   have b20:0 < x2.size:=onePos (by decide +kernel) hx2
   have S2:=Lib.hid hs2
   have G2:=Lib.hid (gTrans G1.out (gTrans (gAlloc (gRefl w1 sb) _) hg2))
   clear hs2 hg2 hx2
   go_wp2
   go_ret
   exact HM.out ⟨5,x2⟩ (paraMk (by decide) (by omega) (by omega)) n2 (by omega) _ S2.out G2.out
  ·have h0:¬ m1 = 0:=by omega
   have h1:¬ m1 = 1:=by omega
   have e0:(m1 == 0) = false:=beq_eq_false_iff_ne.2 h0
   have e1:(m1 == 1) = false:=beq_eq_false_iff_ne.2 h1
   have e2:(m1 == 2) = false:=beq_eq_false_iff_ne.2 hm2
   clear hm01
   go_wp2_with fail
   refine (Names_c _).mono ?_
   rintro e w2 ⟨rfl,rfl⟩
   go_wp2_with fail
   refine (oneL w1 nameList _ _ _ _ rfl rfl (by decide) (by decide) S1.out (by omega)).mono ?_
   rintro e w2 ⟨v2,n2,rfl,⟨x2,hx2,rfl⟩,hn2,hs2,hg2⟩
   have b2:x2.size ≤ 10:=oneOf (by decide +kernel) hx2
   have b20:0 < x2.size:=onePos (by decide +kernel) hx2
   have hg2':=gTrans G1.out (gTrans (gAlloc (gRefl w1 sb) _) hg2)
   have G2:=Lib.hid (GS.lit (R:=paraR) (e:=78) ⟨2,x2⟩ [.int .i64 2,.string x2] rfl (fun _ _=>rfl) hs2 hg2' hsb)
   clear hs2 hg2 hx2 hg2' S1 G1 HM S0
   go_wp2_with fail
   refine (range_c sb n2 1 2 _ G2.out.str (by omega) (by decide) (by decide) (by decide)).mono ?_
   rintro e w3 ⟨v3,n3,rfl,⟨r3,⟨hr1,hr2⟩,rfl⟩,hn3,hs3,hg3⟩
   obtain ⟨r,rfl⟩:=Int.eq_ofNat_of_zero_le (show 0 ≤ r3 by omega)
   have G3:=Lib.hid (G2.out.turn hg3 hs3)
   have hb3:paraBd ⟨2,x2⟩:=paraMk (by decide) (by omega) (by omega)
   have HB3:=Lib.hid hb3
   clear hs3 hg3 G2 hb3
   go_wp2
   go_loopw [4,40] (fun v i wr=>∃ (k:Nat) (l:List Para) (n:Int),k ≤ r ∧ i = .int .i64 k ∧ n ≤ k0 + 5 + 2010 * (k:Int) ∧ l.length ≤ 1 + 2 * k ∧ 0 < l.length ∧ Hid (GS paraR 78 w sb l v [] n wr) ∧ Hid (∀ x ∈ l,paraBd x)) (fun _ i _=>r - (intOf i).toNat)
   case atStart=>exact ⟨0,[⟨2,x2⟩],n3,by omega,rfl,by omega,by simp,by simp,G3.out,fun x hx=>by rw [List.mem_singleton] at hx; subst hx; exact HB3.out⟩
   case round=>
    clear G3 HB3
    obtain ⟨k,l,n,hk,rfl,hn,hll,hl0,HG,HX⟩:=hrel
    by_cases hlt:k < r
    ·go_wp2_with fail
     refine (flip_c sb n 3 _ HG.out.str (by omega) (by decide) (by decide)).mono ?_
     rintro e w4 ⟨v4,n4,rfl,⟨b4,rfl⟩,hn4,hs4,hg4⟩
     have G4:=Lib.hid (HG.out.turn hg4 hs4)
     clear hs4 hg4 HG
     go_upto_if 43 with (fail)
     go_cut [4] (fun v wx=>∃ (vv:Value) (l:List Para) (n:Int),vv = v ∧ n ≤ n4 + 1002 ∧ l.length ≤ 2 + 2 * k ∧ 0 < l.length ∧ Hid (GS paraR 78 w sb l vv [] n wx) ∧ Hid (∀ x ∈ l,paraBd x))
     case first=>
      cases b4 with
      | false=>
       go_wp2
       go_meet
       exact ⟨_,l,n4,rfl,by omega,by omega,hl0,G4.out,HX⟩
      | true=>
       go_wp2_with fail
       refine (pickL w4 [2,20] _ _ _ _ rfl rfl (by decide) (by decide) G4.out.str (by omega)).mono ?_
       rintro e w5 ⟨v5,n5,rfl,⟨y,hy,rfl⟩,hn5,hs5,hg5⟩
       have hyb:1 ≤ y ∧ y ≤ 1000:=by simp at hy; omega
       have G5:=Lib.hid ((G4.out.alloc _).turn hg5 hs5)
       clear hs5 hg5 hy G4
       go_wp2_with fail
       refine (gwords_c sb n5 y 200 _ G5.out.str (by omega) hyb.1 hyb.2 (by decide) (by decide)).mono ?_
       rintro e w6 ⟨v6,n6,rfl,⟨x6,hx6,rfl⟩,hn6,hs6,hg6⟩
       have G6:=Lib.hid (G5.out.turn hg6 hs6)
       have hb6:paraBd ⟨3,x6⟩:=paraMk (by decide) (by omega) (by omega)
       have HB6:=Lib.hid hb6
       clear hs6 hg6 G5 hb6
       have hzc:=G6.out.size
       go_wp2_with (at_builtin; (refine wpList_pushB (R:=paraR) rfl _ _ _ rfl w.heap.size w.heap.size 78 i0 _ 24 Tryz.underlying44 hi0 hz0 (by assumption) (by assumption) rfl (by decide) _ u4 l rfl (G6.out.own.alloc _) (⟨3,x6⟩:Para) _ rfl (oneC rfl) w6.heap.size _ _ (heap_alloc_new w6 _) rfl (by simp [maxLen]; omega) (by omega) (by simp; omega) ?_); intro g cap w7 hown7 hg7 hat7 hlt7)
       go_meet
       exact ⟨_,l ++ [⟨3,x6⟩],n6,rfl,by omega,by simp; omega,by simp,G6.out.push hown7 hg7,fun z hz=>by
        rcases List.mem_append.1 hz with h | h
        ·exact HX.out z h
        ·rw [List.mem_singleton] at h; subst h; exact HB6.out⟩
     case rest=>
      clear G4 HX hll hl0
      obtain ⟨v4,l,n5,rfl,hn5,hll,hl0,G5,HX⟩:=hcut
      go_wp2_with fail
      refine (pickL wc [3,12,80] _ _ _ _ rfl rfl (by decide) (by decide) G5.out.str (by omega)).mono ?_
      rintro e w6 ⟨v6,n6,rfl,⟨y,hy,rfl⟩,hn6,hs6,hg6⟩
      have hyb:1 ≤ y ∧ y ≤ 1000:=by simp at hy; omega
      have G6:=Lib.hid ((G5.out.alloc _).turn hg6 hs6)
      clear hs6 hg6 hy G5
      go_wp2_with fail
      refine (gwords_c sb n6 y 1998 _ G6.out.str (by omega) hyb.1 hyb.2 (by decide) (by decide)).mono ?_
      rintro e w7 ⟨v7,n7,rfl,⟨x7,hx7,rfl⟩,hn7,hs7,hg7⟩
      have G7:=Lib.hid (G6.out.turn hg7 hs7)
      clear hs7 hg7 G6
      go_wp2_with fail
      refine (flip_c sb n7 8 _ G7.out.str (by omega) (by decide) (by decide)).mono ?_
      rintro e w8 ⟨v8,n8,rfl,⟨b8,rfl⟩,hn8,hs8,hg8⟩
      have G8:=Lib.hid (G7.out.turn hg8 hs8)
      clear hs8 hg8 G7
      go_upto_if 59 with (fail)
      go_cut [5] (fun s wx=>∃ (z:ByteArray) (n:Int),s = .string z ∧ z.size ≤ 2010 ∧ 0 < z.size ∧ n ≤ n8 + 1 ∧ Hid (GS paraR 78 w sb l v4 [] n wx))
      case first=>
       cases b8 with
       | false=>
        go_wp2
        go_meet
        exact ⟨x7,n8,rfl,by omega,by omega,by omega,G8.out⟩
       | true=>
        go_wp2_with fail
        refine (oneL w8 [⟨#[40]⟩,⟨#[92]⟩,⟨#[35]⟩,⟨#[64]⟩] _ _ _ _ rfl rfl (by decide) (by decide) G8.out.str (by omega)).mono ?_
        rintro e w9 ⟨v9,n9,rfl,⟨x9,hx9,rfl⟩,hn9,hs9,hg9⟩
        have b9:x9.size ≤ 2:=oneOf (by decide +kernel) hx9
        have G9:=Lib.hid ((G8.out.alloc _).turn hg9 hs9)
        clear hs9 hg9 hx9
        go_wp2
        go_meet
        exact ⟨x9 ++ x7,n9,rfl,by rw [ByteArray.size_append]; omega,by rw [ByteArray.size_append]; omega,by omega,G9.out⟩
      case rest=>
       clear G8
       obtain ⟨z,n9,rfl,hz,hzp,hn9,G9⟩:=hcut
       have hb9:paraBd ⟨4,z⟩:=paraMk (by decide) (by omega) (by omega)
       have HB9:=Lib.hid hb9
       clear hb9
       have hzc:=G9.out.size
       go_wp2_with (at_builtin; (refine wpList_pushB (R:=paraR) rfl _ _ _ rfl w.heap.size w.heap.size 78 i0 _ 24 Tryz.underlying44 hi0 hz0 (by assumption) (by assumption) rfl (by decide) _ v4 l rfl (G9.out.own.alloc _) (⟨4,z⟩:Para) _ rfl (oneC rfl) wc.heap.size _ _ (heap_alloc_new wc _) rfl (by simp [maxLen]; omega) (by omega) (by simp; omega) ?_); intro g cap w10 hown10 hg10 hat10 hlt10)
       go_roundw
       case rel=>exact ⟨k + 1,l ++ [⟨4,z⟩],n9,by omega,intNum,by omega,by simp; omega,by simp,G9.out.push hown10 hg10,fun z hz=>by
        rcases List.mem_append.1 hz with h | h
        ·exact HX.out z h
        ·rw [List.mem_singleton] at h; subst h; exact HB9.out⟩
       case measure=>simp [intOf]; omega
    ·go_wp2
     go_ret
     exact ⟨_,n,rfl,⟨l,HG.out.own.sli (fun q h1 h2=>⟨h1,h2⟩) (fun g hg=>HG.out.own.block g hg),by omega,hl0,HX.out⟩,by omega,HG.out.str,HG.out.gr⟩
end Go.Proofs.YtaoobkgepcikiaaGreatDoor
