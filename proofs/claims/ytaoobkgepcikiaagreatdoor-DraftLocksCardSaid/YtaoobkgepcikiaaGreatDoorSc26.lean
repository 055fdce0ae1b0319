/- Texts packed: WpT, LnS. -/
import Derived.Test.YtaoobkgepcikiaaGreatDoorSc08
import Derived.Test.YtaoobkgepcikiaaGreatDoorSc25
namespace Go.Proofs.YtaoobkgepcikiaaGreatDoor
set_option linter.unusedVariables false
section
open Go.RowKit
def segL (pre:List ByteArray):List (List UInt8):=pre.map fun x=>x.data.toList
theorem wrapL_filter (wd:Nat):∀ (ws:List (List UInt8)) (st:Wst),ws.foldl (wrapW wd) st = (ws.filter fun w=>decide (w ≠ [])).foldl (wrapW wd) st
 | [],_=>rfl
 | x :: ws,st=>by
  by_cases h:x = []
  ·rw [List.foldl_cons,List.filter_cons_of_neg (by simp [h]),wrapL_filter wd ws]
   congr 1
   unfold wrapW
   rw [if_pos h]
  ·rw [List.foldl_cons,List.filter_cons_of_pos (by simp [h]),List.foldl_cons]
   exact wrapL_filter wd ws _
theorem segL_cuts (s:ByteArray) (c:UInt8):segL (cutsB s c) = segsT c s.data.toList []:=by
 unfold segL cutsB
 rw [List.map_map]
 conv=>rhs; rw [← List.map_id (segsT c s.data.toList [])]
 rfl
theorem wrapT_cuts (s:ByteArray) (wd:Nat):wrapT s wd = (wrapL wd (segL (cutsB s 32))).all.map mkB:=by
 unfold wrapT wrapL
 rw [segL_cuts,wordsA_segsT,← wrapL_filter]
theorem segsT_sum2 (c:UInt8):∀ (l cur:List UInt8),((segsT c l cur).map fun w=>w.length + 1).sum = cur.length + l.length + 1
 | [],cur=>by simp [segsT]
 | b :: l,cur=>by
  rw [segsT]
  split
  ·have:=segsT_sum2 c l []
   simp at this ⊢; omega
  ·have:=segsT_sum2 c l (cur ++ [b])
   simp at this ⊢; omega
theorem cuts_pre {s:ByteArray} {c:UInt8} {pre:List ByteArray} (h:pre <+: cutsB s c):((segL pre).map fun w=>w.length + 1).sum ≤ s.size + 1:=by
 obtain ⟨r,hr⟩:=h
 have h1:=segsT_sum2 c s.data.toList []
 rw [← segL_cuts,← hr] at h1
 simp [segL] at h1 ⊢
 omega
theorem wrapL_out (wd:Nat) (h0:0 < wd) {s:ByteArray} {pre:List ByteArray} (h:pre <+: cutsB s 32) (hs:s.size ≤ 1048576):(wrapL wd (segL pre)).all.length ≤ 1048577:=by
 have h1:=wrapL_len (wd:=wd) h0 (segL pre)
 have h2:=cuts_pre h
 omega
theorem segL_snoc (pre:List ByteArray) (x:ByteArray):segL (pre ++ [x]) = segL pre ++ [x.data.toList]:=by simp [segL]
theorem mkB_ne {l:List UInt8} (h:¬ l = []):¬ mkB l = ⟨#[]⟩:=fun e=>h (by
 have:=congrArg (fun b:ByteArray=>b.data.toList) e
 simpa [mkB] using this)
theorem own_rowS {w:World} {b b':Nat} {e:TypeId} {l:List (List UInt8)} {v:Value} (h:w.ownsRow b e 1 v l.length (l.map fun x=>.string (mkB x))) (hb:b' ≤ b):Own strR w b' b' e (l.map mkB) v:=by
 refine ⟨l.map fun x=>.string (mkB x),⟨by rw [List.length_map,List.length_map]; show _ = _ * 1; rw [Nat.mul_one],?_⟩,by rw [List.length_map,List.length_map]; show _ = _ * 1; rw [Nat.mul_one],fun k x hx=>?_⟩
 ·rw [List.length_map]
  rcases h.2 with ⟨h1,h2⟩ | ⟨g,cap,cur,h1,h2,h3⟩
  ·exact .inl ⟨h1,h2⟩
  ·exact .inr ⟨g,cap,cur,h1,Nat.le_trans hb h2,h3⟩
 ·show ((l.map fun x=>Value.string (mkB x)).drop (k * 1)).take 1 = [.string x]
  obtain ⟨hk,rfl⟩:=List.getElem?_eq_some_iff.1 hx
  rw [List.length_map] at hk
  rw [Nat.mul_one,List.drop_eq_getElem_cons (by rw [List.length_map]; exact hk),List.take_succ_cons,List.take_zero,List.getElem_map,List.getElem_map]
theorem rowS_own {w:World} {b lo:Nat} {e:TypeId} {l:List (List UInt8)} {v:Value} (h:Own strR w b lo e (l.map mkB) v):w.ownsRow b e 1 v l.length (l.map fun x=>.string (mkB x)):=by
 obtain ⟨xs,h1,h2,h3⟩:=h
 rw [List.length_map] at h1
 have hx:xs = l.map fun x=>.string (mkB x):=by
  have hl:xs.length = l.length:=by have:=h1.1; rw [this]; show _ * 1 = _; omega
  apply List.ext_getElem?
  intro i
  by_cases hi:i < l.length
  ·have h4:=h3 i (mkB l[i]) (by rw [List.getElem?_map,List.getElem?_eq_getElem hi]; rfl)
   have h5:(xs.drop (i * 1)).take 1 = [.string (mkB l[i])]:=h4
   rw [Nat.mul_one,List.drop_eq_getElem_cons (by omega),List.take_succ_cons,List.take_zero] at h5
   rw [List.getElem?_eq_getElem (by omega),List.getElem?_map,List.getElem?_eq_getElem hi]
   injection h5 with h5
   rw [h5]
   rfl
  ·rw [List.getElem?_eq_none (by omega),List.getElem?_eq_none (by rw [List.length_map]; omega)]
 rw [← hx]
 exact h1
end
section
open Go.RowKit
structure Blk where
 kind:Nat
 lines:List ByteArray
 kinds:List Nat
 name:ByteArray
def blanks (n:Nat):ByteArray:=mkB (List.replicate n 32)
def indS (n:Nat) (s:ByteArray):ByteArray:=blanks n ++ s
def Blk.put (b:Blk) (kind at_:Nat) (l:List ByteArray):Blk:={ b with lines:=b.lines ++ l.map (indS at_),kinds:=b.kinds ++ (l.map fun _=>kind) }
def blkGroup (nm:ByteArray):Blk:={ kind:=3,lines:=[indS 20 nm],kinds:=[0],name:=nm }
def blkTurn (t:ByteArray):Blk:={ kind:=2,lines:=[indS (60 - (t ++ ⟨#[58]⟩).size) (t ++ ⟨#[58]⟩)],kinds:=[],name:=⟨#[]⟩ }
def blkWrap (kind:Nat) (t:ByteArray):Blk:={ kind:=kind,lines:=wrapT t 60,kinds:=[],name:=⟨#[]⟩ }
def blkPara (out:List Blk) (p:Para):List Blk:=
 if p.kind = 1 then out ++ [blkWrap 1 p.text]
 else if p.kind = 5 then out ++ [blkTurn p.text]
 else if p.kind = 2 then out ++ [blkGroup p.text]
 else if p.kind = 3 then out.modify (out.length - 1) (fun b=>b.put 1 15 (wrapT (⟨#[40]⟩ ++ p.text ++ ⟨#[41]⟩) 30))
 else if p.kind = 4 then out.modify (out.length - 1) (fun b=>b.put 2 10 (wrapT p.text 35))
 else out
def blocksS (x:Scene):List Blk:=x.paras.foldl blkPara [blkWrap 0 (headS x)]
def Blk.gap (b:Blk):Nat:=if b.kind = 0 then 2 else 1
end
end Go.Proofs.YtaoobkgepcikiaaGreatDoor
