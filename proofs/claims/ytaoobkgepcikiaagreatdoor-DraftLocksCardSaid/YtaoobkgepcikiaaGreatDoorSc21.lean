/- Texts packed: SpB. -/
import Derived.Test.YtaoobkgepcikiaaGreatDoorSc02
import Derived.Test.YtaoobkgepcikiaaGreatDoorSc20
import Derived.Test.YtaoobkgepcikiaaGreatDoorSc13
import Derived.Test.YtaoobkgepcikiaaGreatDoorSc16
import Derived.Test.YtaoobkgepcikiaaGreatDoorSc01
namespace Go.Proofs.YtaoobkgepcikiaaGreatDoor
set_option linter.unusedVariables false
open Go.RowKit Go.Sort
def sceneBm (N:Nat) (s:Scene):Prop:=s.no.size ≤ 1000 ∧ s.set.size ≤ 1000 ∧ s.paras.length ≤ 60 ∧ ∀ p ∈ s.paras,p.text.size ≤ N
theorem sceneBm.up {N M:Nat} {s:Scene} (h:sceneBm N s) (hN:N ≤ M):sceneBm M s:=⟨h.1,h.2.1,h.2.2.1,fun p hp=>Nat.le_trans (h.2.2.2 p hp) hN⟩
theorem sceneBm.of {s:Scene} (h:sceneBd s):sceneBm 10000 s:=⟨h.1,h.2.2.2.1,h.2.2.2.2.2.2.1,fun p hp=>(h.2.2.2.2.2.2.2 p hp).2.2.2⟩
def SpG (F:Nat → Prop) (w w':World) (q:Nat):Prop:=F q ∨ (w.heap.size ≤ q ∧ q < w'.heap.size)
def isSp (F:Nat → Prop) (N M:Nat) (w:World) (v:Value) (w':World):Prop:=∃ (t:ByteArray) (l:List (Scene × Value)) (sv:Value),v = .agg (xCs t sv) ∧ Sli svR w' (SpG F w w') l sv ∧ (∀ y ∈ l,Sli paraR w' (SpG F w w') y.1.paras y.2) ∧ t.size ≤ 1000 ∧ l.length ≤ M ∧ ∀ y ∈ l,sceneBm N y.1
def isSpM (F:Nat → Prop) (m N M:Nat) (w:World) (v:Value) (w':World):Prop:=∃ (t:ByteArray) (l:List (Scene × Value)) (sv:Value),v = .agg (xCs t sv) ∧ Sli svR w' (SpG F w w') l sv ∧ (∀ y ∈ l,Sli paraR w' (SpG F w w') y.1.paras y.2) ∧ t.size ≤ 1000 ∧ (m ≤ l.length ∧ l.length ≤ M) ∧ ∀ y ∈ l,sceneBm N y.1
theorem isSpM.sp {F:Nat → Prop} {m N M:Nat} {w w':World} {v:Value} (h:isSpM F m N M w v w'):isSp F N M w v w':=
 have ⟨t,l,sv,e,h1,h2,h3,h4,h5⟩:=h
 ⟨t,l,sv,e,h1,h2,h3,h4.2,h5⟩
def SpF (F:Nat → Prop) (w:World) (m:Nat) (v:Value) (q:Nat):Prop:=(F q ∨ (w.heap.size + 2 ≤ q ∧ q < m)) ∧ v.ownBlock ≠ some q
abbrev SpP (w:World) (t:ByteArray) (v:Value):List (Nat × Array Value × TypeId):=[(w.heap.size,xCs t v,28),(w.heap.size + 1,xCs ⟨#[]⟩ (.slice none 0 0),28)]
structure SpI (F:Nat → Prop) (w:World) (sb m k:Nat) (t:ByteArray) (l:List (Scene × Value)) (v:Value) (n:Int) (wx:World):Prop where
 gs:GS svR 46 w sb l v (SpP w t v) n wx
 inn:∀ (i:Nat) x,l[i]? = some x → i ≠ k → Sli paraR wx (SpF F w m v) x.1.paras x.2
 le:m ≤ wx.heap.size
 hF:∀ q,F q → q < w.heap.size ∧ q ≠ sb
section
variable {F:Nat → Prop} {w wx wy:World} {sb m k:Nat} {t t':ByteArray} {l l':List (Scene × Value)} {v v':Value} {n n':Int}
theorem SpF.ne {q:Nat} (h:SpF F w m v q) (hF:∀ q,F q → q < w.heap.size ∧ q ≠ sb) (hsb:sb < w.heap.size) (hle:m ≤ wx.heap.size) (hz:w.heap.size ≤ wx.heap.size):q < wx.heap.size ∧ q ≠ sb ∧ q ≠ w.heap.size ∧ q ≠ w.heap.size + 1 ∧ v.ownBlock ≠ some q:=by
 rcases h.1 with h1 | h1
 ·have:=hF q h1
  exact ⟨by omega,this.2,by omega,by omega,h.2⟩
 ·exact ⟨by omega,by omega,by omega,by omega,h.2⟩
theorem SpI.step (h:SpI F w sb m k t l v n wx) (hgs:GS svR 46 w sb l' v' (SpP w t' v') n' wy) (hk:∀ q,SpF F w m v q → wy.heap[q]? = wx.heap[q]?) (hv:∀ q,SpF F w m v q → v'.ownBlock ≠ some q) (hz:wx.heap.size ≤ wy.heap.size)
  (hl:∀ (i:Nat) x',l'[i]? = some x' → i ≠ k → ∃ x,l[i]? = some x ∧ x.1.paras = x'.1.paras ∧ x.2 = x'.2):SpI F w sb m k t' l' v' n' wy:=
 ⟨hgs,fun i x' hx hik=>by
  obtain ⟨x,h1,h2,h3⟩:=hl i x' hx hik
  rw [← h2,← h3]
  exact ((h.inn i x h1 hik).keep hk).more fun q hq=>⟨hq.1,hv q hq⟩,Nat.le_trans h.le hz,h.hF⟩
theorem SpI.turn (h:SpI F w sb m k t l v n wx) (hg:wx.grownBy wy (some sb)) (hs:Str wy sb n'):SpI F w sb m k t l v n' wy:=
 h.step (h.gs.turn hg hs) (fun q hq=>by have hh:=hq.ne h.hF h.gs.lt h.le h.gs.size; exact hg.block q hh.1 (fun e=>hh.2.1 (by injection e))) (fun q hq=>hq.2) hg.size (fun i x hx _=>⟨x,hx,rfl,rfl⟩)
theorem SpI.below (h:SpI F w sb m k t l v n wx) (hb:Below wx.heap.size wx wy):SpI F w sb m k t l v n wy:=h.turn (gBelow (gRefl wx sb) hb) (h.gs.str.below hb)
theorem SpI.alloc (h:SpI F w sb m k t l v n wx) (o:Obj):SpI F w sb m k t l v n (wx.alloc o):=h.turn (gAlloc (gRefl wx sb) o) (h.gs.str.alloc o)
theorem SpI.drew (h:SpI F w sb m k t l v n wx):SpI F w sb m k t l v n wx.drew:=⟨h.gs.drew,fun i x hx hik=>(h.inn i x hx hik).drew,h.le,h.hF⟩
theorem SpI.title (h:SpI F w sb m k t l v n wx) (s:ByteArray):SpI F w sb m k s l v n (wx.setCell ⟨w.heap.size,0,none⟩ (.string s)):=
 h.step (h.gs.set (i:=0) svFlat (.string s) (by simp)) (fun q hq=>Below.heap_setCell wx _ _ q (hq.ne h.hF h.gs.lt h.le h.gs.size).2.2.1) (fun q hq=>hq.2) (by simp [World.setCell]) (fun i x hx _=>⟨x,hx,rfl,rfl⟩)
theorem SpI.mod {g M cap j:Nat} (h:SpI F w sb m k t l (.slice (some ⟨g,0,none⟩) M cap) n wx) (f:Scene × Value → Scene × Value) (u:Value) (hf:∀ x,(f x).1.cells (f x).2 = (x.1.cells x.2).set j u) (hj:j < 5) (hk:k < l.length) :
  SpI F w sb m k t (l.modify k f) (.slice (some ⟨g,0,none⟩) M cap) n (wx.setCell ⟨g,k * 5 + j,none⟩ u):=
 h.step (GS.modify (n:=5) (enc:=fun x:Scene × Value=>x.1.cells x.2) (hn:=fun _=>rfl) h.gs f k j u hf hj hk) (fun q hq=>Below.heap_setCell wx _ _ q (fun e=>hq.2 (by rw [e]; rfl))) (fun q hq=>hq.2) (by simp [World.setCell]) (fun i x hx hik=>by
  rw [List.getElem?_modify] at hx
  refine ⟨x,?_,rfl,rfl⟩
  rw [← hx]
  cases l[i]? with
  | none=>rfl
  | some y=>simp [show ¬ k = i from fun e=>hik e.symm])
theorem SpI.inner (h:SpI F w sb m k t l v n wx) {g:Nat} (hg:wx.grownBy wy (some g)) (hm:m ≤ g) (hm2:w.heap.size + 2 ≤ m) (hgv:v.ownBlock ≠ some g):SpI F w sb m k t l v n wy:=by
 have hz:=h.gs.size
 have hlt:=h.gs.lt
 have hgs:GS svR 46 w sb l v (SpP w t v) n wy:=by
  refine ⟨h.gs.str.keep fun b hb=>hg.block b (by omega) (by simp; omega),⟨hg.os.trans h.gs.gr.os,hg.tape.trans h.gs.gr.tape,hg.output.trans h.gs.gr.output,Nat.le_trans h.gs.gr.size hg.size,fun i hi hne=>(hg.block i (by omega) (by simp; omega)).trans (h.gs.gr.block i hi hne)⟩,?_,hlt,fun p hp=>?_⟩
  ·exact Own.keepF (enc:=fun x:Scene × Value=>x.1.cells x.2) (hn:=fun _=>rfl) h.gs.own (fun q hq=>hg.block q (h.gs.own.block q hq).2 (fun e=>hgv (by rw [hq]; exact e))) hg.size
  ·obtain ⟨k1,k2,k3⟩:=h.gs.prv p hp
   refine ⟨(hg.block p.1 (heap_lt k1) (fun e=>?_)).trans k1,k2,k3⟩
   injection e with e
   simp only [List.mem_cons,List.not_mem_nil,or_false] at hp
   rcases hp with rfl | rfl <;> (dsimp only at e; omega)
 exact h.step hgs (fun q hq=>by
  have hh:=hq.ne h.hF h.gs.lt h.le h.gs.size
  refine hg.block q hh.1 (fun e=>?_)
  injection e with e
  rcases hq.1 with h1 | h1
  ·have:=h.hF q h1; omega
  ·omega) (fun q hq=>hq.2) hg.size (fun i x hx _=>⟨x,hx,rfl,rfl⟩)
theorem GS.takeF {P:List (Nat × Array Value × TypeId)} (h:GS svR 46 w sb l v P n wx) (hb:Below wx.heap.size wx wy) (hown:Own svR wy wx.heap.size wx.heap.size 46 l' v'):GS svR 46 w sb l' v' P n wy:=by
 have h2:=h.below hb
 exact ⟨h2.str,h2.gr,hown.less h.size,h2.lt,fun p hp=>⟨(h2.prv p hp).1,(h2.prv p hp).2.1,fun e=>by have:=hown.block _ e; have:=h.plt hp; omega⟩⟩
theorem SpI.at_ {L:Nat} (h:SpI F w sb m L t l v n wx) (hL:l.length ≤ L) (k m':Nat) (hm:m ≤ m') (hm2:m' ≤ wx.heap.size):SpI F w sb m' k t l v n wx:=
 ⟨h.gs,fun i x hx _=>(h.inn i x hx (by have:=(List.getElem?_eq_some_iff.1 hx).1; omega)).more fun q hq=>⟨hq.1.imp id fun h=>⟨h.1,by omega⟩,hq.2⟩,hm2,h.hF⟩
theorem spFin2 {m0 N M:Nat} {k0 dk:Int} (h:GS svR 46 w sb l v (SpP w t v) n wx) (hF:∀ q,F q → q < w.heap.size ∧ q ≠ sb) (hk:∀ y ∈ l,Sli paraR wx (fun q=>F q ∨ (w.heap.size + 2 ≤ q ∧ q < wx.heap.size)) y.1.paras y.2) (ht:t.size ≤ 1000) (hl:m0 ≤ l.length ∧ l.length ≤ M) (hb:∀ y ∈ l,sceneBm N y.1) (hn:n ≤ k0 + dk) :
  Took sb k0 dk (isSpM F m0 N M w) w (.returned (.agg (xCs t v))) ((wx.setCell ⟨w.heap.size + 1,0,none⟩ (.string t)).setCell ⟨w.heap.size + 1,1,none⟩ v):=by
 have hg:=((h.less (Q:=[(w.heap.size + 1,xCs ⟨#[]⟩ (.slice none 0 0),28)]) (by simp)).set (i:=0) svFlat (.string t) (by simp)).set (i:=1) svFlat v (by simp)
 have hz:((wx.setCell ⟨w.heap.size + 1,0,none⟩ (.string t)).setCell ⟨w.heap.size + 1,1,none⟩ v).heap.size = wx.heap.size:=by simp [World.setCell]
 have hwz:=h.size
 refine ⟨_,n,rfl,⟨t,l,v,rfl,hg.own.sliF (enc:=fun x:Scene × Value=>x.1.cells x.2) (hn:=fun _=>rfl) (fun g e=>.inr (hg.own.block g e)),fun y hy=>?_,ht,hl,hb⟩,hn,hg.str,hg.gr⟩
 have hkeep:∀ q,(F q ∨ (w.heap.size + 2 ≤ q ∧ q < wx.heap.size)) → ((wx.setCell ⟨w.heap.size + 1,0,none⟩ (.string t)).setCell ⟨w.heap.size + 1,1,none⟩ v).heap[q]? = wx.heap[q]?:=fun q hq=>by
  have hne:q ≠ w.heap.size + 1:=by
   rcases hq with hq | hq
   ·have:=hF q hq; omega
   ·omega
  exact (Below.heap_setCell _ _ _ _ hne).trans (Below.heap_setCell _ _ _ _ hne)
 exact ((hk y hy).keep hkeep).more fun q hq=>hq.imp id fun hh=>⟨by omega,by rw [hz]; exact hh.2⟩
theorem SpI.all (h:SpI F w sb m k t l v n wx) (hk:∀ x,l[k]? = some x → Sli paraR wx (fun q=>F q ∨ (w.heap.size + 2 ≤ q ∧ q < wx.heap.size)) x.1.paras x.2):∀ y ∈ l,Sli paraR wx (fun q=>F q ∨ (w.heap.size + 2 ≤ q ∧ q < wx.heap.size)) y.1.paras y.2:=fun y hy=>by
 obtain ⟨i,hi⟩:=List.mem_iff_getElem?.1 hy
 by_cases e:i = k
 ·subst e; exact hk y hi
 ·exact (h.inn i y hi e).more fun q hq=>hq.1.imp id fun hh=>⟨hh.1,Nat.lt_of_lt_of_le hh.2 h.le⟩
theorem SpI.fin {m0 N M:Nat} {k0 dk:Int} (h:SpI F w sb m k t l v n wx) (hk:∀ x,l[k]? = some x → Sli paraR wx (fun q=>F q ∨ (w.heap.size + 2 ≤ q ∧ q < wx.heap.size)) x.1.paras x.2) (ht:t.size ≤ 1000) (hl:m0 ≤ l.length ∧ l.length ≤ M) (hb:∀ y ∈ l,sceneBm N y.1) (hn:n ≤ k0 + dk) :
  Took sb k0 dk (isSpM F m0 N M w) w (.returned (.agg (xCs t v))) ((wx.setCell ⟨w.heap.size + 1,0,none⟩ (.string t)).setCell ⟨w.heap.size + 1,1,none⟩ v):=
 spFin2 h.gs h.hF (h.all hk) ht hl hb hn
theorem Own.ghost {α:Type} {n:Nat} {enc:α → List Value} {hn:∀ x,(enc x).length = n} {w:World} {base lo:Nat} {e:TypeId} {l l':List α} {v:Value} (h:Own (Rep.flat n enc hn) w base lo e l v) (hl:l.map enc = l'.map enc):Own (Rep.flat n enc hn) w base lo e l' v:=by
 obtain ⟨xs,ho,hy⟩:=h
 have hlen:l.length = l'.length:=by have:=congrArg List.length hl; simpa using this
 refine ⟨xs,by rw [← hlen]; exact ho,⟨by rw [← hlen]; exact hy.1,fun k x hx=>?_⟩⟩
 have e:=congrArg (fun q=>q[k]?) hl
 simp only [List.getElem?_map,hx] at e
 cases hlk:l[k]? with
 | none=>rw [hlk] at e; simp at e
 | some y=>
  rw [hlk] at e
  simp at e
  have h2:=hy.2 k y hlk
  show _ = enc x
  rw [← e]; exact h2
theorem SpI.ghost (h:SpI F w sb m k t l v n wx) (f:Scene × Value → Scene × Value) (hf:∀ x,(f x).1.cells (f x).2 = x.1.cells x.2):SpI F w sb m k t (l.modify k f) v n wx:=
 h.step ⟨h.gs.str,h.gs.gr,h.gs.own.ghost (by
  apply List.ext_getElem?
  intro i
  simp only [List.getElem?_map,List.getElem?_modify]
  cases l[i]? with
  | none=>rfl
  | some y=>
   by_cases e:k = i
   ·simp [e,hf]
   ·simp [e]),h.gs.lt,h.gs.prv⟩ (fun _ _=>rfl) (fun q hq=>hq.2) (Nat.le_refl _) (fun i x hx hik=>by
  rw [List.getElem?_modify] at hx
  refine ⟨x,?_,rfl,rfl⟩
  rw [← hx]
  cases l[i]? with
  | none=>rfl
  | some y=>simp [show ¬ k = i from fun e=>hik e.symm])
theorem SpI.cells (h:SpI F w sb m k t l v n wx):(wx.cell? ⟨w.heap.size,0,none⟩ = some (.string t) ∧ wx.cell? ⟨w.heap.size,1,none⟩ = some v) ∧ (wx.cell? ⟨w.heap.size + 1,0,none⟩ = some (.string ⟨#[]⟩) ∧ wx.cell? ⟨w.heap.size + 1,1,none⟩ = some (.slice none 0 0)) ∧ (wx.frozen? ⟨w.heap.size,0,none⟩ = false ∧ wx.frozen? ⟨w.heap.size,1,none⟩ = false) ∧ (wx.frozen? ⟨w.heap.size + 1,0,none⟩ = false ∧ wx.frozen? ⟨w.heap.size + 1,1,none⟩ = false):=by
 obtain ⟨x,f⟩:=h.gs.cell (p:=(w.heap.size,xCs t v,28)) (by simp)
 obtain ⟨y,g⟩:=h.gs.cell (p:=(w.heap.size + 1,xCs ⟨#[]⟩ (.slice none 0 0),28)) (by simp)
 exact ⟨⟨x 0,x 1⟩,⟨y 0,y 1⟩,⟨f 0,f 1⟩,g 0,g 1⟩
end
end Go.Proofs.YtaoobkgepcikiaaGreatDoor
