/- Texts packed: WpR. -/
import Derived.Test.YtaoobkgepcikiaaGreatDoorSc08
namespace Go.Proofs.YtaoobkgepcikiaaGreatDoor
set_option linter.unusedVariables false
open Go.RowKit Go.Sort
theorem leSum:∀ (l:List Nat) (x:Nat),x ∈ l → x ≤ l.sum
 | [],x,h=>by cases h
 | y :: l,x,h=>by
  rw [List.sum_cons]
  rcases List.mem_cons.1 h with rfl | h
  ·omega
  ·have:=leSum l x h; omega
theorem chopZ_le {wd:Nat} (h0:0 < wd):∀ (n:Nat) (w:List UInt8),w.length ≤ n → (chopZ wd w).length ≤ wd
 | 0,w,hl=>by rw [chopZ_done (by omega)]; omega
 | n + 1,w,hl=>by
  by_cases h:wd < w.length
  ·rw [chopZ_more h0 h]
   exact chopZ_le h0 n _ (by rw [List.length_drop]; omega)
  ·rw [chopZ_done h]; omega
theorem wrapL_cur {wd:Nat} (h0:0 < wd) (ws:List (List UInt8)):(wrapL wd ws).cur.length ≤ wd:=by
 have key:∀ (ws:List (List UInt8)) (st:Wst),st.cur.length ≤ wd → (ws.foldl (wrapW wd) st).cur.length ≤ wd:=by
  intro ws
  induction ws with
  | nil=>intro st h; exact h
  | cons w r ih=>
   intro st h
   refine ih _ ?_
   unfold wrapW
   split
   ·exact h
   ·split
    ·rename_i h2
     have:=h2.2
     simp
     omega
    ·exact chopZ_le h0 w.length w (Nat.le_refl _)
 exact key ws _ (Nat.zero_le _)
theorem map_put {l:List (List UInt8)} {n:Nat} {f:List UInt8 → List UInt8} {x:List UInt8} {V:ByteArray} (hn:l[n]? = some x) (hV:V = mkB (f x)):(l.map mkB).modify n (fun _=>V) = (l.modify n f).map mkB:=by
 apply List.ext_getElem?
 intro i
 rw [List.getElem?_modify,List.getElem?_map,List.getElem?_map,List.getElem?_modify]
 by_cases e:n = i
 ·subst e
  rw [hn]
  simp [hV]
 ·cases l[i]? <;> simp [e]
abbrev StG (w:World) (l:List ByteArray) (v:Value) (P:List Pb) (wx:World):Prop:=BM strR 9 w l v P wx
set_option maxRecDepth 100000 in
set_option maxHeartbeats 4000000 in
theorem WrapOf_c (s:ByteArray) (wd:Nat) (w:World) (hs:s.size ≤ 1048576) (hw0:10 ≤ wd) (hw1:wd ≤ 200) (hp:∀ x ∈ s.data.toList,prB x = true) (hsp:SpLaid w) :
  Calls Tryz.prog 119 #[.string s,.int .i64 (wd:Int)] w fun e w'=>∃ v,e = .returned v ∧ Below w.heap.size w w' ∧ Own strR w' w.heap.size w.heap.size 9 (wrapT s wd) v:=by
 obtain ⟨i0,hi0,hz0,hz1,hz2⟩:=info_parts (show (Tryz.prog.info? 9).map (fun i=>(i.zero,i.size,i.bytes)) = some (some (.string ⟨#[]⟩),1,16) by kernel_rfl)
 have HFI:=Lib.hid (fields_c s w (by omega) hp hsp)
 have hwsum:=wordsA_sum s.data.toList []
 have HNE:=Lib.hid (wordsA_ne2 s.data.toList [])
 have HWT:=Lib.hid (show wrapT s wd = (wrapL wd (wordsA s.data.toList [])).all.map mkB from rfl)
 have hds:s.data.toList.length = s.size:=by simp
 have hwl:(wordsA s.data.toList []).length ≤ s.size:=by
  have h:=wordsA_len s.data.toList []
  simpa using h
 clear hp hsp
 go_enter Tryz.func119,Tryz.ntmps119
 go_wp2_with fail
 refine HFI.out.mono ?_
 rintro e w1 ⟨v1,rfl,hb1,hown1⟩
 have G1:=Lib.hid ((BM.start (n:=1) (enc:=fun x:ByteArray=>[.string x]) (hn:=fun _=>rfl) (e:=9) w).keepNew hb1 hown1)
 have HO1:=Lib.hid hown1
 clear hb1 hown1 HFI
 have HSL:=Lib.hid (fun (W:World) l v P (hW:StG w l v P W) (hP:∀ p ∈ keepP v1 w1 ++ [],p ∈ P)=>show Sli strR W (fun q=>v1.ownBlock = some q) (wordsB s) v1 ∧ ∀ q,v1.ownBlock = some q → q < W.heap.size from
  ⟨BM.sliK hW (fun p hp=>hP p (by simp [hp])) HO1.out,fun q hq=>(hW.plt (b:=q) (f:=fun o=>o = w1.heap[q]?) (hP _ (by unfold keepP; rw [hq]; simp))).2⟩)
 obtain ⟨KP,hkp⟩:∃ KP,keepP v1 w1 ++ [] = KP:=⟨_,rfl⟩
 rw [hkp] at HSL G1
 obtain ⟨hs1,_⟩:=HSL.out _ _ _ _ G1.out (fun p hp=>hp)
 obtain ⟨A1,c1,hv1,_,_⟩:=hs1.form
 unfold wordsB at HSL hs1 hv1
 obtain ⟨ws,hws⟩:∃ ws,wordsA s.data.toList [] = ws:=⟨_,rfl⟩
 rw [hws] at HSL hv1 hwsum HNE HWT hwl
 obtain ⟨K,hK⟩:∃ K,ws.length = K:=⟨_,rfl⟩
 have HK:=Lib.hid hK
 rw [List.length_map,hK] at hv1
 rw [hK] at hwl
 obtain ⟨F1,hF1⟩:∃ F1:Nat → Prop,F1 = fun q=>v1.ownBlock = some q:=⟨_,rfl⟩
 have HSL:=Lib.hid (show ∀ (W:World) l v P,StG w l v P W → (∀ p ∈ KP,p ∈ P) → (Sli strR W F1 (ws.map mkB) v1 ∧ ∀ q,F1 q → q < W.heap.size) from fun W l v P h1 h2=>by rw [hF1]; exact HSL.out W l v P h1 h2)
 rw [hv1] at HSL
 have G1:=Lib.hid (show StG w ((wrapL wd (ws.take 0)).all.map mkB) (.slice none 0 0) KP w1 from G1.out)
 rw [hv1]
 have HLB:=Lib.hid (show ∀ k,(wrapL wd (ws.take k)).all.length ≤ 1048577 from fun k=>by
  have h1:=wrapL_len (wd:=wd) (by omega) (ws.take k)
  have h2:((ws.take k).map fun w=>w.length + 1).sum ≤ (ws.map fun w=>w.length + 1).sum:=by
   rw [List.map_take]
   have h3:=List.take_append_drop k (ws.map fun w=>w.length + 1)
   have h4:=congrArg List.sum h3
   rw [List.sum_append] at h4
   omega
  simp at hwsum
  omega)
 have HWL:=Lib.hid (show ∀ w ∈ ws,w.length ≤ 1048577 from fun w hw=>by
  have h1:w.length + 1 ≤ (ws.map fun w=>w.length + 1).sum:=leSum _ _ (List.mem_map.2 ⟨w,hw,rfl⟩)
  simp at hwsum
  omega)
 have HOK:=Lib.hid (fun k=>wrapL_ok (wd:=wd) (by omega) (ws.take k))
 have HCU:=Lib.hid (fun k=>wrapL_cur (wd:=wd) (by omega) (ws.take k))
 clear hs1 hv1 HO1 hws hK hkp hF1 hwsum hds
 go_wp2
 go_loopw [5,12] (fun v i wr=>∃ k:Nat,k ≤ K ∧ i = .int .i64 k ∧ Hid (StG w ((wrapL wd (ws.take k)).all.map mkB) v KP wr)) (fun _ i _=>K - (intOf i).toNat)
 case atStart=>exact ⟨0,Nat.zero_le _,rfl,G1⟩
 case round=>
  clear G1
  obtain ⟨k,hk,rfl,HG⟩:=hrel
  by_cases hlt:k < K
  ·have hk2:k < ws.length:=by rw [HK.out]; exact hlt
   have hk3:k < (ws.map mkB).length:=by rw [List.length_map]; exact hk2
   obtain ⟨hsl,hslt⟩:=HSL.out _ _ _ _ HG.out (fun p hp=>hp)
   obtain ⟨b1,off1,rfl,hfb,c0⟩:=str_at hsl k hk3
   rw [List.getElem_map] at c0
   have hbl:=hslt b1 hfb
   have hne:=HNE.out _ (List.getElem_mem hk2)
   have hcl:=HWL.out _ (List.getElem_mem hk2)
   have hsn:wrapL wd (ws.take (k + 1)) = wrapW wd (wrapL wd (ws.take k)) (ws[k]'hk2):=by rw [List.take_succ_eq_append_getElem hk2,wrapL_snoc]
   have hok:=HOK.out k
   have hcu:=HCU.out k
   have hlb:=HLB.out k
   generalize (ws[k]'hk2) = cw at *
   generalize wrapL wd (ws.take k) = st at *
   have HSN:=Lib.hid hsn
   obtain ⟨L,hL⟩:∃ L,st.all.length = L:=⟨_,rfl⟩
   obtain ⟨A5,c5,hv5,_,_⟩:=(HG.out.own.sliF (F:=fun _=>True) (enc:=fun x:ByteArray=>[.string x]) (hn:=fun _=>rfl) (fun _ _=>trivial)).form
   rw [List.length_map,hL] at hv5
   subst hv5
   have HLL:=Lib.hid hL
   have hL0:L = 0 ↔ st.cur = []:=by rw [← all_nil hok,← hL]; exact List.length_eq_zero_iff
   have hcz:=mkB_size cw
   have ew1:IntKind.i64.wrap ((L:Int) - 1) = (L:Int) - 1:=IntWalk.i64_in _ (by omega)
   rw [hL] at hlb
   clear hsl hslt hk2 hk3 hsn hL
   have HLAST:=Lib.hid (fun (hc:¬ st.cur = []) (W:World) (v:Value) P (hW:StG w (st.all.map mkB) v P W)=>show ∃ g cap,v = .slice (some ⟨g,0,none⟩) L cap ∧ W.cell? ⟨g,L - 1,none⟩ = some (.string (mkB st.cur)) ∧ W.frozen? ⟨g,L - 1,none⟩ = false by
    have hLp:0 < L:=Nat.pos_of_ne_zero (fun e=>hc (hL0.1 e))
    have hlm:L - 1 < (st.all.map mkB).length:=by rw [List.length_map,HLL.out]; omega
    have hlast:(st.all.map mkB)[L - 1]? = some (mkB st.cur):=by
     rw [List.getElem?_map]
     have h1:st.all[st.all.length - 1]? = some st.cur:=by
      unfold Wst.all
      rw [if_neg hc]
      simp
     rw [HLL.out] at h1
     rw [h1]
     rfl
    obtain ⟨g,cap,hv,hb1,hb2⟩:=Own.some_ (enc:=fun x:ByteArray=>[.string x]) (hn:=fun _=>rfl) hW.own (by omega)
    rw [List.length_map,HLL.out] at hv
    have hW2:=hW.own
    rw [hv] at hW2
    have hca:=Own.cellAt (enc:=fun x:ByteArray=>[.string x]) (hn:=fun _=>rfl) hW2 (L - 1) hlm 0 (by decide)
    rw [List.getElem?_eq_getElem hlm] at hlast
    injection hlast with hlast
    rw [hlast,show (L - 1) * 1 + 0 = L - 1 by omega] at hca
    exact ⟨g,cap,hv,hca.1,hca.2⟩)
   obtain ⟨fb,hfb2⟩:∃ fb,decide (¬ st.cur = [] ∧ st.cur.length + 1 + cw.length ≤ wd) = fb:=⟨_,rfl⟩
   have HFB:=Lib.hid hfb2
   clear hfb2
   go_upto_region 6 with (fail)
   go_cut [33] (fun v wx=>v = .bool fb ∧ wx = wr)
   case first=>
    by_cases hc:st.cur = []
    ·obtain rfl:L = 0:=hL0.2 hc
     have HR:=Lib.hid (show fb = false by rw [← HFB.out]; exact decide_eq_false (fun h=>h.1 hc))
     have hlt0:¬ (0:Int) ≤ ((0:Nat):Int) - 1:=by omega
     clear hL0
     go_wp2
     go_meet
     exact ⟨by rw [HR.out],rfl⟩
    ·have hLp:0 < L:=Nat.pos_of_ne_zero (fun e=>hc (hL0.1 e))
     obtain ⟨g,cap,hv,hcell,_⟩:=HLAST.out hc _ _ _ HG.out
     injection hv with hv hle hvc
     clear hle
     subst hv
     subst hvc
     have hge:(0:Int) ≤ (L:Int) - 1:=by omega
     have hl1:(L:Int) - 1 < (L:Int):=by omega
     have hlN:((L:Int) - 1).toNat = L - 1:=by omega
     have hsz:=mkB_size st.cur
     have HCS:=Lib.hid (show fb = decide (st.cur.length + 1 + cw.length ≤ wd) by rw [← HFB.out]; exact decide_eq_decide.2 ⟨fun h=>h.2,fun h=>⟨hc,h⟩⟩)
     have ew2:IntKind.i64.wrap ((st.cur.length:Int) + 1) = (st.cur.length:Int) + 1:=IntWalk.i64_in _ (by omega)
     have ew3:IntKind.i64.wrap ((st.cur.length:Int) + 1 + (cw.length:Int)) = (st.cur.length:Int) + 1 + (cw.length:Int):=IntWalk.i64_in _ (by omega)
     by_cases hf:st.cur.length + 1 + cw.length ≤ wd
     ·have HR:=Lib.hid (HCS.out.trans (decide_eq_true hf))
      have hfI:(st.cur.length:Int) + 1 + (cw.length:Int) ≤ (wd:Int):=by omega
      clear hL0 hc
      go_wp2
      go_meet
      exact ⟨by rw [HR.out],rfl⟩
     ·have HR:=Lib.hid (HCS.out.trans (decide_eq_false hf))
      have hfI:¬ (st.cur.length:Int) + 1 + (cw.length:Int) ≤ (wd:Int):=by omega
      clear hL0 hc
      go_wp2
      go_meet
      exact ⟨by rw [HR.out],rfl⟩
   case rest=>
   obtain ⟨rfl,rfl⟩:=hcut
   cases fb with
   | true=>
    have hfit:¬ st.cur = [] ∧ st.cur.length + 1 + cw.length ≤ wd:=of_decide_eq_true HFB.out
    obtain ⟨g,cap,hv,hcell,hfr⟩:=HLAST.out hfit.1 _ _ _ HG.out
    injection hv with hv hle hvc
    clear hle
    subst hv
    subst hvc
    have hLp:0 < L:=Nat.pos_of_ne_zero (fun e=>hfit.1 (hL0.1 e))
    have hge:(0:Int) ≤ (L:Int) - 1:=by omega
    have hl1:(L:Int) - 1 < (L:Int):=by omega
    have hlN:((L:Int) - 1).toNat = L - 1:=by omega
    obtain ⟨e1,e2⟩:=all_fits (wd:=wd) hne hfit.1 hfit.2
    rw [HLL.out] at e1 e2
    have hV:mkB st.cur ++ ((⟨#[32]⟩:ByteArray) ++ mkB cw) = mkB (st.cur ++ 32 :: cw):=by
     rw [show (⟨#[32]⟩:ByteArray) = mkB [32] from rfl,mkB_app,mkB_app]
     rfl
    have hmp:=map_put (f:=fun l=>l ++ 32 :: cw) e2 hV
    rw [← e1] at hmp
    have hM:=BM.modify (enc:=fun x:ByteArray=>[.string x]) (hn:=fun _=>rfl) HG.out (fun _=>mkB st.cur ++ ((⟨#[32]⟩:ByteArray) ++ mkB cw)) (L - 1) 0 (.string (mkB st.cur ++ ((⟨#[32]⟩:ByteArray) ++ mkB cw))) (fun _=>rfl) (by decide) (by rw [List.length_map,HLL.out]; omega)
    rw [hmp,← HSN.out,show (L - 1) * 1 + 0 = L - 1 by omega] at hM
    have GM:=Lib.hid hM
    have hsz:=mkB_size st.cur
    have hs32:((⟨#[32]⟩:ByteArray) ++ mkB cw).size = 1 + cw.length:=by rw [ByteArray.size_append,hcz]; rfl
    have hx1:¬ 9223372036854775807 < (⟨#[32]⟩:ByteArray).size + (mkB cw).size:=by
     have:(⟨#[32]⟩:ByteArray).size = 1:=rfl
     omega
    have hx2:¬ 9223372036854775807 < (mkB st.cur).size + ((⟨#[32]⟩:ByteArray) ++ mkB cw).size:=by omega
    have hx3:¬ 9223372036854775807 < st.cur.length + (1 + cw.length):=by omega
    have hx4:¬ 9223372036854775807 < 1 + cw.length:=by omega
    clear hM hmp hV e1 e2 hL0 hfit HLAST HFB
    go_wp2
    go_roundw
    case rel=>exact ⟨k + 1,by omega,intNum,GM⟩
    case measure=>simp [intOf]; omega
   | false=>
    have hnf:st.cur = [] ∨ ¬ st.cur.length + 1 + cw.length ≤ wd:=by
     have h:=of_decide_eq_false HFB.out
     by_cases hc:st.cur = []
     ·exact .inl hc
     ·exact .inr fun h2=>h ⟨hc,h2⟩
    have HNEW:=Lib.hid (show (wrapL wd (ws.take (k + 1))).all = st.all ++ chopA wd cw ++ [chopZ wd cw] by rw [HSN.out]; exact all_new (by omega) hne hnf)
    have HLL2:=Lib.hid (HLB.out (k + 1))
    have HWD:=Lib.hid hw0
    clear hnf HLAST HFB hL0 hcu hok hne HSN HLL
    go_wp2
    go_loopw [5,7] (fun v s7 wx=>∃ (acc:List (List UInt8)) (cz:List UInt8),s7 = .string (mkB cz) ∧ cz.length ≤ cw.length ∧ Hid ((wrapL wd (ws.take (k + 1))).all = acc ++ chopA wd cz ++ [chopZ wd cz]) ∧ Hid (StG w (acc.map mkB) v KP wx)) (fun _ s7 _=>match s7 with | .string b=>b.size | _=>0)
    case atStart=>exact ⟨st.all,cw,rfl,Nat.le_refl _,HNEW,HG⟩
    case round=>
     clear HG HNEW hcl hcz
     obtain ⟨acc,cz,rfl,hczl,HA,HG⟩:=hrel
     have hsz:=mkB_size cz
     have hacl:acc.length ≤ 1048577:=by
      have h1:=congrArg List.length HA.out
      rw [List.length_append,List.length_append] at h1
      have:=HLL2.out
      omega
     obtain ⟨A6,c6,hv6,_,_⟩:=(HG.out.own.sliF (F:=fun _=>True) (enc:=fun x:ByteArray=>[.string x]) (hn:=fun _=>rfl) (fun _ _=>trivial)).form
     obtain ⟨m,hm⟩:∃ m,(acc.map mkB).length = m:=⟨_,rfl⟩
     have HML:=Lib.hid hm
     rw [List.length_map] at hm
     rw [HML.out] at hv6
     subst hv6
     by_cases hlg:wd < cz.length
     ·have hA2:=HA.out
      rw [chopA_more (by omega) hlg,chopZ_more (by omega) hlg] at hA2
      have HA2:=Lib.hid (show (wrapL wd (ws.take (k + 1))).all = (acc ++ [cz.take wd]) ++ chopA wd (cz.drop wd) ++ [chopZ wd (cz.drop wd)] by rw [hA2]; simp)
      have hgt:(wd:Int) < (cz.length:Int):=by omega
      have hgs:wd < (mkB cz).size:=by omega
      have HE1:=Lib.hid (show (mkB cz).extract 0 wd = mkB (cz.take wd) by
       apply ByteArray.ext
       rw [ByteArray.data_extract]
       show cz.toArray.extract 0 wd = (cz.take wd).toArray
       simp)
      have HE2:=Lib.hid (show (mkB cz).extract wd (mkB cz).size = mkB (cz.drop wd) by
       apply ByteArray.ext
       rw [ByteArray.data_extract,hsz]
       show cz.toArray.extract wd cz.length = (cz.drop wd).toArray
       simp
       rw [List.take_of_length_le (by simp)])
      clear hA2
      have he1:=HE1.out
      have he2:=HE2.out
      rw [hsz] at he2
      have GZ:=Lib.hid HG.out.size
      have hgi1:(wd:Int) ≤ ((mkB cz).size:Int):=by omega
      have hgi2:(wd:Int) ≤ (cz.length:Int):=by omega
      have hgi3:(0:Int) ≤ (wd:Int):=by omega
      have hgi4:wd ≤ (mkB cz).size:=by omega
      have hgi5:wd ≤ cz.length:=by omega
      go_upto_region 9 with (fail)
      go_region_law (refine step_push (R:=strR) rfl _ _ _ rfl w.heap.size w.heap.size 9 i0 _ 16 Tryz.underlying31 hi0 hz0 (by assumption) (by assumption) rfl (by decide) _ (.slice A6 m c6) (acc.map mkB) rfl (by first | exact (HG.out.own.drew.alloc _) | exact (HG.out.own.alloc _).drew | exact HG.out.own.alloc _) (mkB (cz.take wd)) _ rfl (oneC rfl) wr.heap.size _ _ (by first | exact heap_alloc_new wr _ | exact heap_alloc_new wr.drew _) rfl (by rw [HML.out]; simp [maxLen]; omega) (by rw [HML.out]; omega) (by have:=GZ.out; simp; omega) ?_; rw [HML.out]; intro g7 cap7 w7 hown7 hg7 hat7 hlt7)
      all_goals
       have hG7:=by first | exact BM.more ((HG.out.drew).alloc (.cells #[.string (mkB (cz.take wd))] 9)) hown7 hg7 rfl hat7 | exact BM.more ((HG.out.alloc (.cells #[.string (mkB (cz.take wd))] 9)).drew) hown7 hg7 rfl hat7 | exact BM.more (HG.out.alloc (.cells #[.string (mkB (cz.take wd))] 9)) hown7 hg7 rfl hat7
       have G7:=Lib.hid (show StG w ((acc ++ [cz.take wd]).map mkB) (.slice (some ⟨g7,0,none⟩) (m + 1) cap7) KP w7 by rw [List.map_append]; exact hG7)
       clear hG7 hown7 hg7 hat7
       go_simp
       go_wp2
       go_roundw
       ·exact ⟨acc ++ [cz.take wd],cz.drop wd,rfl,by rw [List.length_drop]; omega,HA2,G7⟩
       ·simp [mkB_size]
        omega
     ·have hng:¬ (wd:Int) < (cz.length:Int):=by omega
      have HEN:=Lib.hid (show (wrapL wd (ws.take (k + 1))).all = acc ++ [cz] by rw [HA.out,chopA_done hlg,chopZ_done hlg]; simp)
      have hzz:=HG.out.size
      clear HA hsz
      go_wp2_with (at_builtin; (refine wpList_pushB (R:=strR) rfl _ _ _ rfl w.heap.size w.heap.size 9 i0 _ 16 Tryz.underlying31 hi0 hz0 (by assumption) (by assumption) rfl (by decide) _ (.slice A6 m c6) (acc.map mkB) rfl (HG.out.own.alloc _) (mkB cz) [.string (mkB cz)] rfl (oneC rfl) wr.heap.size _ _ (heap_alloc_new wr _) rfl (by rw [HML.out]; simp [maxLen]; omega) (by rw [HML.out]; omega) (by simp; omega) ?_); rw [HML.out]; intro g cap w7 hown7 hg7 hat7 hlt7)
      have G7:=Lib.hid (show StG w ((wrapL wd (ws.take (k + 1))).all.map mkB) (.slice (some ⟨g,0,none⟩) (m + 1) cap) KP w7 by rw [HEN.out,List.map_append]; exact BM.more (HG.out.alloc (.cells #[.string (mkB cz)] 9)) hown7 hg7 rfl hat7)
      go_roundw
      case rel=>exact ⟨k + 1,by omega,intNum,G7⟩
      case measure=>simp [intOf]; omega
  ·have HE:=Lib.hid (show wrapT s wd = (wrapL wd (ws.take k)).all.map mkB by rw [HWT.out,List.take_of_length_le (by rw [HK.out]; omega)])
   go_wp2
   go_ret
   exact ⟨_,rfl,HG.out.bel,by rw [HE.out]; exact HG.out.own⟩
end Go.Proofs.YtaoobkgepcikiaaGreatDoor
