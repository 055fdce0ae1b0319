/- Texts packed: WpW. -/
import Derived.Test.YtaoobkgepcikiaaGreatDoorSc08
import Derived.Test.YtaoobkgepcikiaaGreatDoorSc02
import Derived.Test.YtaoobkgepcikiaaGreatDoorSc01
import Derived.Test.YtaoobkgepcikiaaGreatDoorSc26
import Derived.Maps.AppendAt
namespace Go.Proofs.YtaoobkgepcikiaaGreatDoor
set_option linter.unusedVariables false
open Go.RowKit Go.Shelf
attribute [local go_sem] Oper.semAt_some
def wrapX (n:Nat) (k:Nat):Prop:=k = n + 1 ∨ k = n + 2
def WrapI (w:World) (wd:Nat) (pre:List ByteArray) (W:World):Prop:=
 ∃ v,Boxed W (w.heap.size + 1) 31 v ∧ W.ownsRow (w.heap.size + 6) 9 1 v (wrapL wd (segL pre)).out.length ((wrapL wd (segL pre)).out.map fun l=>.string (mkB l)) ∧
  Boxed W (w.heap.size + 2) 9 (.string (mkB (wrapL wd (segL pre)).cur)) ∧ Boxed W w.heap.size 3 (.int .i64 (wd:Int)) ∧ w.heap.size + 6 ≤ W.heap.size ∧ Below w.heap.size w W
theorem wrapI_own (w:World) (wd:Nat) (B:Nat) (hB:w.heap.size ≤ B):OwnFrom B (WrapI w wd):=by
 rintro pre W W' row ⟨v,h1,h2,h3,h4,h5,h6⟩ hg hr
 have hc:∀ {b t u},Boxed W b t u → some b ≠ row:=fun hb e=>by
  obtain ⟨_,o,ho,hn⟩:=hr _ e.symm
  rw [show W.heap[_]? = _ from hb] at ho; cases ho; cases hn
 refine ⟨v,h1.kept hg (hc h1),h2.kept hg ?_,h3.kept hg (hc h3),h4.kept hg (hc h4),Nat.le_trans h5 hg.size,h6.grown hg h6.size (fun k e=>Nat.le_trans hB (hr k e).1)⟩
 rcases h2.2 with ⟨rfl,_⟩ | ⟨g,cap,cur,rfl,_,hgb,_⟩
 ·exact .inl rfl
 ·refine .inr fun e'=>?_
  obtain ⟨_,o,ho,hn⟩:=hr g (by simpa [Value.ownBlock] using e'.symm)
  rw [hgb] at ho; cases ho; cases hn
theorem wrapI_c (w:World) (wd:Nat) (pre:List ByteArray) (A B:World) (h:WrapI w wd pre A) (hg:A.grownBy B (some (w.heap.size + 3))):WrapI w wd pre B:=by
 obtain ⟨v,h1,h2,h3,h4,h5,h6⟩:=h
 have hne:∀ {b},b ≠ w.heap.size + 3 → some b ≠ some (w.heap.size + 3):=fun h e=>h (Option.some.inj e)
 refine ⟨v,h1.kept hg (hne (by omega)),h2.kept hg ?_,h3.kept hg (hne (by omega)),h4.kept hg (hne (by omega)),Nat.le_trans h5 hg.size,h6.grown hg h6.size (fun k e=>by cases e; omega)⟩
 rcases h2.2 with ⟨rfl,_⟩ | ⟨g,cap,cur,rfl,hgb,_,_⟩
 ·exact .inl rfl
 ·refine .inr fun e'=>?_
  have:g = w.heap.size + 3:=by simpa [Value.ownBlock] using e'
  omega
theorem boxRow {W:World} {m B:Nat} {t e:TypeId} {u v:Value} {size k:Nat} {xs:List Value} (hrow:W.ownsRow m e size v k xs) (hB:B < m):some B ≠ v.ownBlock:=by
 intro ei
 rcases hrow.2 with ⟨rfl,_⟩ | ⟨g,cap,cur,rfl,hgb,_,_⟩
 ·simp [Value.ownBlock] at ei
 ·obtain rfl:B = g:=by simpa [Value.ownBlock] using ei
  omega
theorem wrap_end {w W W':World} {wd:Nat} {pre:List ByteArray} {st:Wst} (hst:wrapL wd (segL pre) = st) (hk:KeepM (w.heap.size + 6) (wrapX w.heap.size) W W') (hB:Below w.heap.size w W) (hsz:w.heap.size + 6 ≤ W.heap.size)
  (d4:Boxed W w.heap.size 3 (.int .i64 (wd:Int))) (v:Value) (h1:Boxed W' (w.heap.size + 1) 31 v) (h2:W'.ownsRow (w.heap.size + 6) 9 1 v st.out.length (st.out.map fun l=>.string (mkB l)))
  (h3:Boxed W' (w.heap.size + 2) 9 (.string (mkB st.cur))):KeepsOthers W W' ∧ KeepC (w.heap.size + 3) W W' ∧ WrapI w wd pre W':=by
 refine ⟨hk.others,hk.keepC (by omega) (fun k _ _ hx=>by unfold wrapX at hx; omega),v,h1,?_,?_,hk.box d4 (by omega) (fun hx=>by unfold wrapX at hx; omega),Nat.le_trans hsz hk.size,hB.trans (hk.below (by omega) (fun k hk hx=>by unfold wrapX at hx; omega))⟩
 ·rw [hst]; exact h2
 ·rw [hst]; exact h3
set_option maxRecDepth 100000 in
set_option maxHeartbeats 2000000 in
theorem Wrap_c (s:ByteArray) (wd:Nat) (w:World) (hs:s.size ≤ 1048576) (h0:0 < wd) (h1:wd ≤ 1000000) :
  Calls Tryz.prog 102 #[.string s,.int .i64 (wd:Int)] w fun e w'=>∃ v,e = .returned v ∧ Below w.heap.size w w' ∧ Own strR w' w.heap.size w.heap.size 9 (wrapT s wd) v:=by
 obtain ⟨i0,hi0,hz0,hz1,hz2⟩:=info_parts (show (Tryz.prog.info? 9).map (fun i=>(i.zero,i.size,i.bytes)) = some (some (.string ⟨#[]⟩),1,16) by kernel_rfl)
 refine (callsIn_wide (n:=3)).1 ?_
 refine callsIn_of_wp_marks Tryz.func102 rfl trivial ?_ rfl
 simp only [Tryz.ntmps102,List.size_toArray,List.length_cons,List.length_nil,Nat.reduceAdd,Nat.reduceSub,Array.replicate_succ,Array.replicate_zero,List.push_toArray,List.append_toArray,List.nil_append,List.cons_append]
 gi_wp2_with (refine ⟨trivial,?_⟩; gi_at_call 156; refine (callsIn_wide.2 (SplitSeq_c s ⟨#[32]⟩ _)).mono ?_; rintro e w' ⟨rfl,rfl⟩)
 have bW:=Boxed.new w 3 (.int .i64 (wd:Int))
 have bO:=Boxed.new (w.alloc (.cells #[.int .i64 (wd:Int)] 3)) 31 (.slice none 0 0)
 have bL:=Boxed.new ((w.alloc (.cells #[.int .i64 (wd:Int)] 3)).alloc (.cells #[.slice none 0 0] 31)) 9 (.string ⟨#[]⟩)
 simp only [World.size_alloc] at bO bL
 have bW:=((bW.alloc (.cells #[.slice none 0 0] 31)).alloc (.cells #[.string ⟨#[]⟩] 9))
 have bO:=bO.alloc (.cells #[.string ⟨#[]⟩] 9)
 have hB3:Below w.heap.size w (((w.alloc (.cells #[.int .i64 (wd:Int)] 3)).alloc (.cells #[.slice none 0 0] 31)).alloc (.cells #[.string ⟨#[]⟩] 9)):=(((Below.refl _ w).alloc (Nat.le_refl _) _).alloc (by simp) _).alloc (by simp; omega) _
 have hz3:(((w.alloc (.cells #[.int .i64 (wd:Int)] 3)).alloc (.cells #[.slice none 0 0] 31)).alloc (.cells #[.string ⟨#[]⟩] 9)).heap.size = w.heap.size + 3:=by simp
 generalize ((w.alloc (.cells #[.int .i64 (wd:Int)] 3)).alloc (.cells #[.slice none 0 0] 31)).alloc (.cells #[.string ⟨#[]⟩] 9) = Wa at bW bO bL hB3 hz3 ⊢
 have hq:=seqW_boxes s ⟨#[32]⟩ Wa
 have hqb:=seqW_below s ⟨#[32]⟩ Wa
 have hqs:=seqW_size s ⟨#[32]⟩ Wa
 rw [hz3] at hq hqb hqs
 have bW:=boxBelow bW hqb (by omega)
 have bO:=boxBelow bO hqb (by omega)
 have bL:=boxBelow bL hqb (by omega)
 have hB6:=hB3.trans (hqb.mono (by omega))
 clear hB3 hqb hz3
 generalize seqW s ⟨#[32]⟩ Wa = Wb at hq bW bO bL hB6 hqs ⊢
 refine wpIn_seqC rfl (by decide) (gf:=231) (lb:=#[.pointer (some ⟨w.heap.size + 3 + 1,0,none⟩),.pointer (some ⟨w.heap.size + 3,0,none⟩),.pointer (some ⟨w.heap.size + 3 + 2,0,none⟩)]) rfl trivial (enters_of Tryz.func231 (by kernel_rfl) rfl)
  (splitSeq1_c (3 - 1) (by decide) s 32 (by omega) (w.heap.size + 3) 9 3 Wb hq.1 hq.2.1 hq.2.2) (by omega) (Below.refl _ _) rfl
  (WrapI w wd) (wrapI_own w wd _ (by omega)) (wrapI_c w wd) ⟨.slice none 0 0,bO,World.ownsRow_nil _ _ _ _,bL,bW,by omega,hB6⟩
  (fun x=>{ tmps:=#[Value.string s,Value.int .i64 (wd:Int),undef,.pointer (some ⟨w.heap.size,0,none⟩),.slice none 0 0,.pointer (some ⟨w.heap.size + 1,0,none⟩),.pointer (some ⟨w.heap.size + 1 + 1,0,none⟩),.string x,.string s,seqF (w.heap.size + 3),.string x,undef,undef,undef,undef,undef,undef,undef,undef,undef,undef,undef,undef,undef,undef,undef,undef,undef,undef,undef,undef,undef,undef,undef,undef,undef,undef,undef,undef,undef,undef,undef,undef,undef,undef,undef,undef,undef,undef,undef,undef,undef,undef,undef,undef,undef],defers:=[] }) ?assign ?body ?done
 case assign=>
  intro l x W K hK
  gi_wp2
  exact hK
 case body=>
  rintro l pre x W ⟨v,d1,d2,d3,d4,hsz,hB⟩ hpre
  have hxs:x.size ≤ 1048576:=Nat.le_trans (cutsB_size (hpre.subset (by simp))) hs
  have hlen:=wrapL_out wd h0 (List.IsPrefix.trans (List.prefix_append pre [x]) hpre) hs
  have hlen2:=wrapL_out wd h0 hpre hs
  have hcu:=wrapL_cur (wd:=wd) h0 (segL pre)
  have hsn:wrapL wd (segL (pre ++ [x])) = wrapW wd (wrapL wd (segL pre)) x.data.toList:=by rw [segL_snoc,wrapL_snoc]
  rw [hsn] at hlen2
  generalize wrapL wd (segL pre) = st at *
  have e1:=d1.cell
  have e4:=d4.cell
  have f1:=d1.frozen
  have f3:=d3.frozen
  obtain ⟨cb,hcb⟩:∃ cb,mkB st.cur = cb:=⟨_,rfl⟩
  have hcbs:cb.size = st.cur.length:=by rw [← hcb]; exact mkB_size _
  have hxm:mkB x.data.toList = x:=rfl
  rw [hcb] at d3
  have e3:=d3.cell
  by_cases hxe:x.data.toList = []
  ·have he:x.toList.isEmpty = true:=(empty_iff _).2 (by rw [← hxm,hxe]; rfl)
   have hst:wrapL wd (segL (pre ++ [x])) = st:=by rw [hsn]; unfold wrapW; rw [if_pos hxe]
   clear hxe hsn
   gi_wp2
   exact wrap_end hst (KeepM.refl _ _ _) hB hsz d4 v d1 d2 (by rw [hcb]; exact d3)
  ·have he:x.toList.isEmpty = false:=Bool.eq_false_iff.2 (fun h=>hxe (by rw [(empty_iff _).1 h]))
   by_cases hf:¬ st.cur = [] ∧ st.cur.length + 1 + x.data.toList.length ≤ wd
   ·have hst:wrapL wd (segL (pre ++ [x])) = ⟨st.out,st.cur ++ 32 :: x.data.toList⟩:=by rw [hsn]; unfold wrapW; rw [if_neg hxe,if_pos hf]
    have hce:cb.toList.isEmpty = false:=Bool.eq_false_iff.2 (fun h=>mkB_ne hf.1 (hcb.trans ((empty_iff _).1 h)))
    have hxl:x.data.toList.length = x.size:=by simp
    have hfi:(cb.size:Int) + 1 + (x.size:Int) ≤ (wd:Int):=by have:=hf.2; omega
    have ew2:IntKind.i64.wrap ((cb.size:Int) + 1) = (cb.size:Int) + 1:=IntWalk.i64_in _ (by omega)
    have ew3:IntKind.i64.wrap ((cb.size:Int) + 1 + (x.size:Int)) = (cb.size:Int) + 1 + (x.size:Int):=IntWalk.i64_in _ (by omega)
    have hV:cb ++ ((⟨#[32]⟩:ByteArray) ++ x) = mkB (st.cur ++ 32 :: x.data.toList):=by
     rw [← hcb,show (⟨#[32]⟩:ByteArray) = mkB [32] from rfl,show mkB [32] ++ x = mkB ([32] ++ x.data.toList) from mkB_app [32] x.data.toList,mkB_app]
     rfl
    have h32:(⟨#[32]⟩:ByteArray).size = 1:=rfl
    have hs32:((⟨#[32]⟩:ByteArray) ++ x).size = 1 + x.size:=by rw [ByteArray.size_append,h32]
    have hx1:¬ 9223372036854775807 < (⟨#[32]⟩:ByteArray).size + x.size:=by omega
    have hx2:¬ 9223372036854775807 < cb.size + ((⟨#[32]⟩:ByteArray) ++ x).size:=by omega
    have hx3:¬ 9223372036854775807 < cb.size + (1 + x.size):=by omega
    have hx4:¬ 9223372036854775807 < 1 + x.size:=by omega
    clear hxe hsn hf hcbs
    gi_wp2
    exact wrap_end hst ((KeepM.refl _ _ _).put (B:=w.heap.size + 2) (.inr rfl) _) hB hsz d4 v (boxPut d1 (by omega)) (rowPut d2 (by omega)) (d3.set _)
   ·have hst:wrapL wd (segL (pre ++ [x])) = ⟨st.out ++ (if st.cur = [] then [] else [st.cur]) ++ chopA wd x.data.toList,chopZ wd x.data.toList⟩:=by rw [hsn]; unfold wrapW; rw [if_neg hxe,if_neg hf]
    have hol:(st.out ++ (if st.cur = [] then [] else [st.cur]) ++ chopA wd x.data.toList).length ≤ 1048577:=by
     rw [← hsn,hst] at hlen2
     refine Nat.le_trans ?_ hlen2
     unfold Wst.all
     dsimp only
     rw [List.length_append (bs:=ite _ _ _)]
     exact Nat.le_add_right _ _
    obtain ⟨cx,hcx⟩:∃ cx,x.data.toList = cx:=⟨_,rfl⟩
    have hxl:x.size = cx.length:=by rw [← hcx]; simp
    rw [hcx] at hst hol hf hxm
    by_cases hc:st.cur = []
    ·have hce:cb.toList.isEmpty = true:=(empty_iff _).2 (by rw [← hcb,hc]; rfl)
     rw [if_pos hc,List.append_nil] at hst hol
     have hcxl:cx.length ≤ 1048576:=by omega
     obtain ⟨OUT,hOUT⟩:∃ OUT,st.out ++ chopA wd cx = OUT:=⟨_,rfl⟩
     rw [hOUT] at hst hol
     clear hxe hsn hf hcbs hc hxl hcx hlen2 hxs
     gi_wp2
     gi_loopw [7] (fun u wx=>∃ (acc:List (List UInt8)) (cz:List UInt8) (v':Value),u = .string (mkB cz) ∧ cz.length ≤ 1048576 ∧ Hid (OUT = acc ++ chopA wd cz) ∧ Hid (chopZ wd cx = chopZ wd cz) ∧ Boxed wx (w.heap.size + 1) 31 v' ∧ wx.ownsRow (w.heap.size + 6) 9 1 v' acc.length (acc.map fun l=>.string (mkB l)) ∧ Boxed wx (w.heap.size + 2) 9 (.string cb) ∧ KeepM (w.heap.size + 6) (wrapX w.heap.size) W wx) (fun u _=>match u with | .string b=>b.size | _=>0)
     case atStart=>exact ⟨_,cx,_,by rw [hxm],hcxl,Lib.hid hOUT.symm,Lib.hid rfl,d1,d2,d3,KeepM.refl _ _ _⟩
     case round=>
      obtain ⟨acc,cz,v',rfl,hczl,HA,HZ,g1,g2,g3,gk⟩:=hrel
      have c1:=g1.cell
      have cf1:=g1.frozen
      have cf3:=g3.frozen
      have c3:=g3.cell
      have c4:=(gk.box d4 (by omega) (fun hx=>by unfold wrapX at hx; omega)).cell
      have hzs:=mkB_size cz
      have hgz:=gk.size
      by_cases hlg:wd < cz.length
      ·have hgt:(wd:Int) < ((mkB cz).size:Int):=by omega
       have hA:=HA.out
       have hZ:=HZ.out
       rw [chopA_more h0 hlg] at hA
       rw [chopZ_more h0 hlg] at hZ
       have HA2:=Lib.hid (show OUT = (acc ++ [cz.take wd]) ++ chopA wd (cz.drop wd) by rw [hA]; simp)
       have HZ2:=Lib.hid hZ
       have hacl:acc.length ≤ 1048577:=by have:=congrArg List.length hA; rw [List.length_append] at this; omega
       have he1:(mkB cz).extract 0 wd = mkB (cz.take wd):=by
        apply ByteArray.ext
        rw [ByteArray.data_extract]
        show cz.toArray.extract 0 wd = (cz.take wd).toArray
        simp
       have he2:(mkB cz).extract wd (mkB cz).size = mkB (cz.drop wd):=by
        apply ByteArray.ext
        rw [ByteArray.data_extract,hzs]
        show cz.toArray.extract wd cz.length = (cz.drop wd).toArray
        simp
        rw [List.take_of_length_le (by simp)]
       have hgi1:(wd:Int) ≤ ((mkB cz).size:Int):=by omega
       have hgi3:(0:Int) ≤ (wd:Int):=by omega
       have hgi4:wd ≤ (mkB cz).size:=by omega
       have hms:w.heap.size + 6 ≤ wr.heap.size:=by omega
       have hlt1:w.heap.size + 1 < wr.heap.size:=by omega
       have hne1:¬ w.heap.size + 1 = wr.heap.size:=by omega
       have hlt0:w.heap.size < wr.heap.size:=by omega
       have ca1:(wr.drew.alloc (.cells #[.string (mkB (cz.take wd))] 9)).cell? ⟨w.heap.size + 1,0,none⟩ = some v':=(g1.alloc (.cells #[.string (mkB (cz.take wd))] 9)).cell
       have ca0:(wr.drew.alloc (.cells #[.string (mkB (cz.take wd))] 9)).cell? ⟨w.heap.size,0,none⟩ = some (.int .i64 (wd:Int)):=((gk.box d4 (by omega) (fun hx=>by unfold wrapX at hx; omega)).alloc (.cells #[.string (mkB (cz.take wd))] 9)).cell
       have HO:=Lib.hid (own_rowS g2 (Nat.le_refl _))
       have KF:=Lib.hid (KeepM.refl (w.heap.size + 6) (fun _=>False) wr)
       clear hzs hA hZ HA HZ
       gi_wp2
       obtain ⟨ι,ff,hne,hff,hfS⟩:=family (fun W=>W.cell? ⟨w.heap.size + 1,0,none⟩ = some v' ∧ W.cell? ⟨w.heap.size,0,none⟩ = some (.int .i64 (wd:Int))) wr ⟨c1,c4⟩
       have hneW:Nonempty World:=⟨w⟩
       have s0:=fun p=>(hff p).1
       have s1:=fun p=>(hff p).2
       have HFS:=Lib.hid hfS
       have HCC:=Lib.hid (And.intro c1 c4)
       have HCA:=Lib.hid (And.intro ca1 ca0)
       clear hff hfS c1 c4 ca1 ca0
       refine wpIn_region_segs2 _ [3,4,5] [] [] [([1],[0,2],3),([],[],4),([],[],5),([],[],6)] (by kernel_rfl) (by kernel_rfl) (by kernel_rfl) (fun W=>∃ p:ι,W = ff p) (HFS.out _ HCC.out) ?_
       refine wpSegs2_step (by simp only [pick,List.getElem?_cons_succ,List.getElem?_cons_zero]; rfl) (by simp only [pick,List.getElem?_cons_succ,List.getElem?_cons_zero]; rfl) rfl (fun K0 hK0 L0 hL0=>?_)
       repeat (first | go_big_quiet_step (fail) | quiet_step (fail))
       refine wpQuiet_nil (hL0 _ ?_)
       repeat (first | go_big_quiet_step (fail) | quiet_step (fail))
       refine wpQuiet_nil ?_
       go_simp
       refine hK0 (fun W=>∃ p:ι,W = ff p) _ _ (fun _ h=>h) (HFS.out _ HCC.out) ?_
       refine wpSegs2_step (by simp only [pick,List.getElem?_cons_succ,List.getElem?_cons_zero]; rfl) (by simp only [pick,List.getElem?_cons_succ,List.getElem?_cons_zero]; rfl) rfl (fun K1 hK1 L1 hL1=>?_)
       repeat (first | go_big_quiet_step (fail) | quiet_step (fail))
       refine wpQuiet_nil (hL1 _ ?_)
       repeat (first | go_big_quiet_step (fail) | quiet_step (fail))
       refine wpQuiet_nil ?_
       go_simp
       refine hK1 (fun W=>∃ p:ι,W = ff p) _ _ (fun _ h=>h) (HFS.out _ HCA.out) ?_
       refine wpSegs2_step (by simp only [pick,List.getElem?_cons_succ,List.getElem?_cons_zero]; rfl) (by simp only [pick,List.getElem?_cons_succ,List.getElem?_cons_zero]; rfl) rfl (fun K2 hK2 L2 hL2=>?_)
       repeat (first | go_big_quiet_step (fail) | quiet_step (fail))
       refine wpQuiet_nil (hL2 _ ?_)
       repeat (first | go_big_quiet_step (fail) | quiet_step (fail))
       refine wpQuiet_nil ?_
       refine oper_push (R:=strR) rfl _ _ _ rfl (w.heap.size + 6) (w.heap.size + 6) 9 i0 _ 16 Tryz.underlying31 hi0 hz0 (by assumption) (by assumption) rfl (by decide) _ v' (acc.map mkB) rfl (HO.out.drew.alloc _) (mkB (cz.take wd)) _ rfl (oneC rfl) wr.heap.size _ _ (heap_alloc_new wr.drew _) rfl (by rw [List.length_map]; simp [maxLen]; omega) (by rw [List.length_map]; omega) (by simp; omega) ?_
       rw [List.length_map]
       intro g7 cap7 w7 hown7 hg7 hat7 hlt7
       have k7:KeepM (w.heap.size + 6) (fun _=>False) wr w7:=(KF.out.drew.alloc hms _).grown (by simp; omega) (rowS_own (HO.out.drew.alloc _)) hg7
       have z7:=k7.box g1 (by omega) id
       have zc7:=z7.cell
       have zf7:=z7.frozen
       have y7:=k7.box g3 (by omega) id
       have x7:=(k7.box (gk.box d4 (by omega) (fun hx=>by unfold wrapX at hx; omega)) (by omega) id).cell
       refine hK2 (fun W=>∃ p:ι,W = ff p) _ _ (fun _ h=>h) (HFS.out _ ⟨zc7,x7⟩) ?_
       refine wpSegs2_last (by simp only [pick,List.getElem?_cons_succ,List.getElem?_cons_zero]; rfl) (by simp only [pick,List.getElem?_cons_succ,List.getElem?_cons_zero]; rfl) rfl (by rfl) (fun K3 hK3 L3 hL3=>?_)
       repeat (first | go_big_quiet_step (fail) | quiet_step (fail))
       refine wpQuiet_nil (hL3 _ ?_)
       repeat (first | go_big_quiet_step (fail) | quiet_step (fail))
       refine wpQuiet_nil ?_
       go_simp
       refine hK3 _ _ (wpSegs2_end ?_)
       clear s0 s1
       have hr7:w7.ownsRow (w.heap.size + 6) 9 1 (.slice (some ⟨g7,0,none⟩) (acc.length + 1) cap7) (acc ++ [cz.take wd]).length ((acc ++ [cz.take wd]).map fun l=>.string (mkB l)):=rowS_own (by rw [List.map_append]; exact hown7)
       have hn7:=(gk.trans (k7.wide (X':=wrapX w.heap.size) (fun _ h=>h.elim))).put (B:=w.heap.size + 1) (.inl rfl) (.slice (some ⟨g7,0,none⟩) (acc.length + 1) cap7)
       have hxne:¬ w.heap.size = w.heap.size + 1:=by omega
       clear hown7 HO KF c3 cf1 cf3 hg7 hat7
       unfold onlyN
       gi_wp2
       go_roundw
       ·exact ⟨acc ++ [cz.take wd],cz.drop wd,_,rfl,by rw [List.length_drop]; omega,HA2,HZ2,z7.set _,rowPut hr7 (by omega),boxPut y7 (by omega),hn7⟩
       ·simp [mkB_size]
        omega
      ·have hng:¬ (wd:Int) < ((mkB cz).size:Int):=by omega
       have hA:=HA.out
       have hZ:=HZ.out
       rw [chopA_done hlg,List.append_nil] at hA
       rw [chopZ_done hlg] at hZ
       rw [hA,hZ] at hst
       clear hzs HA HZ
       gi_wp2
       exact wrap_end hst (gk.put (B:=w.heap.size + 2) (.inr rfl) _) hB hsz d4 v' (boxPut g1 (by omega)) (rowPut g2 (by omega)) (g3.set _)
    ·have hce:cb.toList.isEmpty = false:=Bool.eq_false_iff.2 (fun h=>mkB_ne hc (hcb.trans ((empty_iff _).1 h)))
     rw [if_neg hc] at hst hol
     have hfi:¬ (cb.size:Int) + 1 + (x.size:Int) ≤ (wd:Int):=fun h=>hf ⟨hc,by omega⟩
     have ew2:IntKind.i64.wrap ((cb.size:Int) + 1) = (cb.size:Int) + 1:=IntWalk.i64_in _ (by omega)
     have ew3:IntKind.i64.wrap ((cb.size:Int) + 1 + (x.size:Int)) = (cb.size:Int) + 1 + (x.size:Int):=IntWalk.i64_in _ (by omega)
     have hcxl:cx.length ≤ 1048576:=by omega
     have hol2:st.out.length ≤ 1048577:=by
      rw [List.length_append,List.length_append] at hol
      omega
     obtain ⟨OUT,hOUT⟩:∃ OUT,(st.out ++ [st.cur]) ++ chopA wd cx = OUT:=⟨_,rfl⟩
     rw [hOUT] at hst hol
     clear hxe hsn hf hcbs hc hxl hcx hlen2 hxs
     gi_wp2_with (gi_at_builtin; refine wpListIn_append_own _ rfl _ _ 31 rfl (w.heap.size + 6) 9 i0 _ 1 16 Tryz.underlying31 hi0 hz0 hz1 hz2 rfl (by decide) _ _ _ rfl (d2.alloc _) ⟨W.heap.size,0,none⟩ 1 1 [.string cb] rfl rfl (cell_one_new _ _ _) (by simp [Value.oneCell']) (by unfold maxLen; omega) (by omega) (by simp; omega) ?_; intro v' w1 hown' hgrow _; obtain ⟨g',cap',rfl⟩:=ownsRow_succ hown'; have k1:=((KeepM.refl (w.heap.size + 6) (wrapX w.heap.size) W).alloc hsz _).grown (by simp; omega) (d2.alloc _) hgrow; have z1:Boxed w1 (w.heap.size + 1) _ _:=(d1.alloc _).kept hgrow (boxRow (u:=v) (t:=0) d2 (by omega)); have z3:Boxed w1 (w.heap.size + 2) _ _:=(d3.alloc _).kept hgrow (boxRow (u:=v) (t:=0) d2 (by omega)); have c1:=z1.cell; have f1:=z1.frozen)
     have hr2:w1.ownsRow (w.heap.size + 6) 9 1 (.slice (some ⟨g',0,none⟩) (st.out.length + 1) cap') (st.out ++ [st.cur]).length ((st.out ++ [st.cur]).map fun l=>.string (mkB l)):=by rw [List.length_append,List.map_append,List.map_cons,List.map_nil,hcb]; exact hown'
     have k2:=k1.put (B:=w.heap.size + 1) (.inl rfl) (.slice (some ⟨g',0,none⟩) (st.out.length + 1) cap')
     gi_loopw [7] (fun u wx=>∃ (acc:List (List UInt8)) (cz:List UInt8) (v':Value),u = .string (mkB cz) ∧ cz.length ≤ 1048576 ∧ Hid (OUT = acc ++ chopA wd cz) ∧ Hid (chopZ wd cx = chopZ wd cz) ∧ Boxed wx (w.heap.size + 1) 31 v' ∧ wx.ownsRow (w.heap.size + 6) 9 1 v' acc.length (acc.map fun l=>.string (mkB l)) ∧ Boxed wx (w.heap.size + 2) 9 (.string cb) ∧ KeepM (w.heap.size + 6) (wrapX w.heap.size) W wx) (fun u _=>match u with | .string b=>b.size | _=>0)
     case atStart=>exact ⟨_,cx,_,by rw [hxm],hcxl,Lib.hid hOUT.symm,Lib.hid rfl,z1.set _,rowPut hr2 (by omega),boxPut z3 (by omega),k2⟩
     case round=>
      obtain ⟨acc,cz,v',rfl,hczl,HA,HZ,g1,g2,g3,gk⟩:=hrel
      have c1:=g1.cell
      have cf1:=g1.frozen
      have cf3:=g3.frozen
      have c3:=g3.cell
      have c4:=(gk.box d4 (by omega) (fun hx=>by unfold wrapX at hx; omega)).cell
      have hzs:=mkB_size cz
      have hgz:=gk.size
      by_cases hlg:wd < cz.length
      ·have hgt:(wd:Int) < ((mkB cz).size:Int):=by omega
       have hA:=HA.out
       have hZ:=HZ.out
       rw [chopA_more h0 hlg] at hA
       rw [chopZ_more h0 hlg] at hZ
       have HA2:=Lib.hid (show OUT = (acc ++ [cz.take wd]) ++ chopA wd (cz.drop wd) by rw [hA]; simp)
       have HZ2:=Lib.hid hZ
       have hacl:acc.length ≤ 1048577:=by have:=congrArg List.length hA; rw [List.length_append] at this; omega
       have he1:(mkB cz).extract 0 wd = mkB (cz.take wd):=by
        apply ByteArray.ext
        rw [ByteArray.data_extract]
        show cz.toArray.extract 0 wd = (cz.take wd).toArray
        simp
       have he2:(mkB cz).extract wd (mkB cz).size = mkB (cz.drop wd):=by
        apply ByteArray.ext
        rw [ByteArray.data_extract,hzs]
        show cz.toArray.extract wd cz.length = (cz.drop wd).toArray
        simp
        rw [List.take_of_length_le (by simp)]
       have hgi1:(wd:Int) ≤ ((mkB cz).size:Int):=by omega
       have hgi3:(0:Int) ≤ (wd:Int):=by omega
       have hgi4:wd ≤ (mkB cz).size:=by omega
       have hms:w.heap.size + 6 ≤ wr.heap.size:=by omega
       have hlt1:w.heap.size + 1 < wr.heap.size:=by omega
       have hne1:¬ w.heap.size + 1 = wr.heap.size:=by omega
       have hlt0:w.heap.size < wr.heap.size:=by omega
       have ca1:(wr.drew.alloc (.cells #[.string (mkB (cz.take wd))] 9)).cell? ⟨w.heap.size + 1,0,none⟩ = some v':=(g1.alloc (.cells #[.string (mkB (cz.take wd))] 9)).cell
       have ca0:(wr.drew.alloc (.cells #[.string (mkB (cz.take wd))] 9)).cell? ⟨w.heap.size,0,none⟩ = some (.int .i64 (wd:Int)):=((gk.box d4 (by omega) (fun hx=>by unfold wrapX at hx; omega)).alloc (.cells #[.string (mkB (cz.take wd))] 9)).cell
       have HO:=Lib.hid (own_rowS g2 (Nat.le_refl _))
       have KF:=Lib.hid (KeepM.refl (w.heap.size + 6) (fun _=>False) wr)
       clear hzs hA hZ HA HZ
       gi_wp2
       obtain ⟨ι,ff,hne,hff,hfS⟩:=family (fun W=>W.cell? ⟨w.heap.size + 1,0,none⟩ = some v' ∧ W.cell? ⟨w.heap.size,0,none⟩ = some (.int .i64 (wd:Int))) wr ⟨c1,c4⟩
       have hneW:Nonempty World:=⟨w⟩
       have s0:=fun p=>(hff p).1
       have s1:=fun p=>(hff p).2
       have HFS:=Lib.hid hfS
       have HCC:=Lib.hid (And.intro c1 c4)
       have HCA:=Lib.hid (And.intro ca1 ca0)
       clear hff hfS c1 c4 ca1 ca0
       refine wpIn_region_segs2 _ [3,4,5] [] [] [([1],[0,2],3),([],[],4),([],[],5),([],[],6)] (by kernel_rfl) (by kernel_rfl) (by kernel_rfl) (fun W=>∃ p:ι,W = ff p) (HFS.out _ HCC.out) ?_
       refine wpSegs2_step (by simp only [pick,List.getElem?_cons_succ,List.getElem?_cons_zero]; rfl) (by simp only [pick,List.getElem?_cons_succ,List.getElem?_cons_zero]; rfl) rfl (fun K0 hK0 L0 hL0=>?_)
       repeat (first | go_big_quiet_step (fail) | quiet_step (fail))
       refine wpQuiet_nil (hL0 _ ?_)
       repeat (first | go_big_quiet_step (fail) | quiet_step (fail))
       refine wpQuiet_nil ?_
       go_simp
       refine hK0 (fun W=>∃ p:ι,W = ff p) _ _ (fun _ h=>h) (HFS.out _ HCC.out) ?_
       refine wpSegs2_step (by simp only [pick,List.getElem?_cons_succ,List.getElem?_cons_zero]; rfl) (by simp only [pick,List.getElem?_cons_succ,List.getElem?_cons_zero]; rfl) rfl (fun K1 hK1 L1 hL1=>?_)
       repeat (first | go_big_quiet_step (fail) | quiet_step (fail))
       refine wpQuiet_nil (hL1 _ ?_)
       repeat (first | go_big_quiet_step (fail) | quiet_step (fail))
       refine wpQuiet_nil ?_
       go_simp
       refine hK1 (fun W=>∃ p:ι,W = ff p) _ _ (fun _ h=>h) (HFS.out _ HCA.out) ?_
       refine wpSegs2_step (by simp only [pick,List.getElem?_cons_succ,List.getElem?_cons_zero]; rfl) (by simp only [pick,List.getElem?_cons_succ,List.getElem?_cons_zero]; rfl) rfl (fun K2 hK2 L2 hL2=>?_)
       repeat (first | go_big_quiet_step (fail) | quiet_step (fail))
       refine wpQuiet_nil (hL2 _ ?_)
       repeat (first | go_big_quiet_step (fail) | quiet_step (fail))
       refine wpQuiet_nil ?_
       refine oper_push (R:=strR) rfl _ _ _ rfl (w.heap.size + 6) (w.heap.size + 6) 9 i0 _ 16 Tryz.underlying31 hi0 hz0 (by assumption) (by assumption) rfl (by decide) _ v' (acc.map mkB) rfl (HO.out.drew.alloc _) (mkB (cz.take wd)) _ rfl (oneC rfl) wr.heap.size _ _ (heap_alloc_new wr.drew _) rfl (by rw [List.length_map]; simp [maxLen]; omega) (by rw [List.length_map]; omega) (by simp; omega) ?_
       rw [List.length_map]
       intro g7 cap7 w7 hown7 hg7 hat7 hlt7
       have k7:KeepM (w.heap.size + 6) (fun _=>False) wr w7:=(KF.out.drew.alloc hms _).grown (by simp; omega) (rowS_own (HO.out.drew.alloc _)) hg7
       have z7:=k7.box g1 (by omega) id
       have zc7:=z7.cell
       have zf7:=z7.frozen
       have y7:=k7.box g3 (by omega) id
       have x7:=(k7.box (gk.box d4 (by omega) (fun hx=>by unfold wrapX at hx; omega)) (by omega) id).cell
       refine hK2 (fun W=>∃ p:ι,W = ff p) _ _ (fun _ h=>h) (HFS.out _ ⟨zc7,x7⟩) ?_
       refine wpSegs2_last (by simp only [pick,List.getElem?_cons_succ,List.getElem?_cons_zero]; rfl) (by simp only [pick,List.getElem?_cons_succ,List.getElem?_cons_zero]; rfl) rfl (by rfl) (fun K3 hK3 L3 hL3=>?_)
       repeat (first | go_big_quiet_step (fail) | quiet_step (fail))
       refine wpQuiet_nil (hL3 _ ?_)
       repeat (first | go_big_quiet_step (fail) | quiet_step (fail))
       refine wpQuiet_nil ?_
       go_simp
       refine hK3 _ _ (wpSegs2_end ?_)
       clear s0 s1
       have hr7:w7.ownsRow (w.heap.size + 6) 9 1 (.slice (some ⟨g7,0,none⟩) (acc.length + 1) cap7) (acc ++ [cz.take wd]).length ((acc ++ [cz.take wd]).map fun l=>.string (mkB l)):=rowS_own (by rw [List.map_append]; exact hown7)
       have hn7:=(gk.trans (k7.wide (X':=wrapX w.heap.size) (fun _ h=>h.elim))).put (B:=w.heap.size + 1) (.inl rfl) (.slice (some ⟨g7,0,none⟩) (acc.length + 1) cap7)
       have hxne:¬ w.heap.size = w.heap.size + 1:=by omega
       clear hown7 HO KF c3 cf1 cf3 hg7 hat7
       unfold onlyN
       gi_wp2
       go_roundw
       ·exact ⟨acc ++ [cz.take wd],cz.drop wd,_,rfl,by rw [List.length_drop]; omega,HA2,HZ2,z7.set _,rowPut hr7 (by omega),boxPut y7 (by omega),hn7⟩
       ·simp [mkB_size]
        omega
      ·have hng:¬ (wd:Int) < ((mkB cz).size:Int):=by omega
       have hA:=HA.out
       have hZ:=HZ.out
       rw [chopA_done hlg,List.append_nil] at hA
       rw [chopZ_done hlg] at hZ
       rw [hA,hZ] at hst
       clear hzs HA HZ
       gi_wp2
       exact wrap_end hst (gk.put (B:=w.heap.size + 2) (.inr rfl) _) hB hsz d4 v' (boxPut g1 (by omega)) (rowPut g2 (by omega)) (g3.set _)
 case done=>
  rintro D W hD ⟨v,d1,d2,d3,d4,hsz,hB⟩ hK
  have hlen:=wrapL_out wd h0 (List.prefix_refl (cutsB s 32)) hs
  have hwt:=wrapT_cuts s wd
  generalize wrapL wd (segL (cutsB s 32)) = st at *
  rw [hqs] at hD
  have e1:=d1.cell
  have e3:=d3.cell
  have hz:=d1.lt
  by_cases hc:st.cur = []
  ·have hall:st.all = st.out:=by unfold Wst.all; rw [if_pos hc,List.append_nil]
   have he:(mkB st.cur).toList.isEmpty = true:=(empty_iff _).2 (by rw [hc]; rfl)
   clear hc
   gi_wp2
   refine ⟨by simp,.inl ⟨_,_,rfl,run_takeDeferred hK,?_⟩⟩
   exact ⟨_,results_tmp rfl _ _ _,v,rfl,hB.trans (belowK_b (w:=w) (Nat.le_refl _) W D _ _ (by omega) hK rfl rfl),by rw [hwt,hall]; exact own_rowS (ownsRow_putObj d2 _ hK rfl) (by omega)⟩
  ·have hall:st.all = st.out ++ [st.cur]:=by unfold Wst.all; rw [if_neg hc]
   have he:(mkB st.cur).toList.isEmpty = false:=Bool.eq_false_iff.2 (fun h=>mkB_ne hc ((empty_iff _).1 h))
   have hol:st.out.length ≤ 1048576:=by rw [hall,List.length_append] at hlen; simp at hlen; omega
   clear hc
   gi_wp2_with (gi_at_builtin; refine wpListIn_append_own _ rfl _ _ 31 rfl (w.heap.size + 6) 9 i0 _ 1 16 Tryz.underlying31 hi0 hz0 hz1 hz2 rfl (by decide) _ _ _ rfl (d2.alloc _) ⟨W.heap.size,0,none⟩ 1 1 [.string (mkB st.cur)] rfl rfl (cell_one_new _ _ _) (by simp [Value.oneCell']) (by unfold maxLen; omega) (by omega) (by simp; omega) ?_; intro v' w1 hown' hgrow _; obtain ⟨g',cap',rfl⟩:=ownsRow_succ hown'; have k1:=((KeepM.refl (w.heap.size + 6) (wrapX w.heap.size) W).alloc hsz _).grown (by simp; omega) (d2.alloc _) hgrow; have z1:Boxed w1 (w.heap.size + 1) _ _:=(d1.alloc _).kept hgrow (d1.not_row (by decide) d2); have c1:=z1.cell; have f1:=z1.frozen)
   have hr2:w1.ownsRow (w.heap.size + 6) 9 1 (.slice (some ⟨g',0,none⟩) (st.out.length + 1) cap') (st.out ++ [st.cur]).length ((st.out ++ [st.cur]).map fun l=>.string (mkB l)):=by rw [List.length_append,List.map_append]; exact hown'
   have k2:=k1.put (B:=w.heap.size + 1) (.inl rfl) (.slice (some ⟨g',0,none⟩) (st.out.length + 1) cap')
   have hK2:=k2.others.same D _ hK rfl
   refine ⟨by simp,.inl ⟨_,_,rfl,run_takeDeferred hK2,?_⟩⟩
   exact ⟨_,results_tmp rfl _ _ _,_,rfl,(hB.trans (k2.below (by omega) (fun k hk hx=>by unfold wrapX at hx; omega))).trans (belowK_b (w:=w) (Nat.le_refl _) _ D _ _ (by omega) hK2 rfl rfl),by rw [hwt,hall]; exact own_rowS (ownsRow_putObj (rowPut hr2 (by omega)) _ hK2 rfl) (by omega)⟩
end Go.Proofs.YtaoobkgepcikiaaGreatDoor
