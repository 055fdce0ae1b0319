/- Texts packed: LnY, MrS, PaL, PaM. -/
import Derived.Test.YtaoobkgepcikiaaGreatDoorSc34
import Derived.Test.YtaoobkgepcikiaaGreatDoorSc31
import Derived.Test.YtaoobkgepcikiaaGreatDoorSc01
import Derived.Test.YtaoobkgepcikiaaGreatDoorSc33
namespace Go.Proofs.YtaoobkgepcikiaaGreatDoor
set_option linter.unusedVariables false
section
open Go.RowKit Go.Sort
end
section
open Go.RowKit Go.Sort
abbrev Row:=TypeId × List Value × Value
def Apart (a b:Row):Prop:=∀ g,a.2.2.ownBlock = some g → b.2.2.ownBlock ≠ some g
theorem Apart.symm {a b:Row} (h:Apart a b):Apart b a:=fun g h1 h2=>h g h2 h1
structure MR (w:World) (rs:List Row) (P:List Pc) (wx:World):Prop where
 bel:Below w.heap.size w wx
 own:∀ r ∈ rs,Own valR wx w.heap.size w.heap.size r.1 r.2.1 r.2.2
 dis:rs.Pairwise Apart
 prv:∀ p ∈ P,wx.heap[p.1]? = some (.cells p.2.1 p.2.2 (0,0)) ∧ w.heap.size ≤ p.1 ∧ ∀ r ∈ rs,r.2.2.ownBlock ≠ some p.1
section
variable {w wx wy:World} {rs rs':List Row} {P Q:List Pc}
theorem Own.keepV {w w':World} {base lo:Nat} {e:TypeId} {l:List Value} {v:Value} (h:Own valR w base lo e l v) (hk:∀ g,v.ownBlock = some g → w'.heap[g]? = w.heap[g]?):Own valR w' base lo e l v:=by
 obtain ⟨xs,ho,hl⟩:=h
 refine ⟨xs,⟨ho.1,?_⟩,⟨hl.1,fun k x hx=>hl.2 k x hx⟩⟩
 rcases ho.2 with hn | ⟨g,cap,cur,rfl,hb,hg,rest⟩
 ·exact .inl hn
 ·exact .inr ⟨g,cap,cur,rfl,hb,(hk g rfl).trans hg,rest⟩
theorem MR.start (w:World):MR w [] [] w:=⟨Below.refl _ _,(fun r hr=>by cases hr),List.Pairwise.nil,(fun p hp=>by cases hp)⟩
theorem MR.size (h:MR w rs P wx):w.heap.size ≤ wx.heap.size:=h.bel.size
theorem MR.plt (h:MR w rs P wx) {p:Pc} (hp:p ∈ P):p.1 < wx.heap.size:=heap_lt (h.prv p hp).1
theorem MR.cell (h:MR w rs P wx) {p:Pc} (hp:p ∈ P):(∀ i,wx.cell? ⟨p.1,i,none⟩ = p.2.1[i]?) ∧ (∀ i,wx.frozen? ⟨p.1,i,none⟩ = false):=str_cells (h.prv p hp).1
theorem MR.below (h:MR w rs P wx) (hb:Below wx.heap.size wx wy):MR w rs P wy:=
 ⟨h.bel.trans (hb.mono h.size),fun r hr=>(h.own r hr).below hb,h.dis,fun p hp=>⟨(hb.block _ (h.plt hp)).trans (h.prv p hp).1,(h.prv p hp).2⟩⟩
theorem MR.alloc (h:MR w rs P wx) (o:Obj):MR w rs P (wx.alloc o):=h.below ((Below.refl _ wx).alloc (Nat.le_refl _) o)
theorem MR.drew (h:MR w rs P wx):MR w rs P wx.drew:=⟨⟨h.bel.os,h.bel.tape,h.bel.output,h.bel.size,h.bel.block⟩,fun r hr=>(h.own r hr).drew,h.dis,h.prv⟩
theorem MR.nil (h:MR w rs P wx) (t:TypeId):MR w ((t,[],.slice none 0 0) :: rs) P wx:=
 ⟨h.bel,fun r hr=>by
  rcases List.mem_cons.1 hr with rfl | hr
  ·exact Own.nil_
  ·exact h.own r hr,List.Pairwise.cons (fun r _ g hg=>by cases hg) h.dis,fun p hp=>⟨(h.prv p hp).1,(h.prv p hp).2.1,fun r hr=>by
  rcases List.mem_cons.1 hr with rfl | hr
  ·intro e; cases e
  ·exact (h.prv p hp).2.2 r hr⟩⟩
theorem MR.new (h:MR w rs P wx) (cs:Array Value) (T:TypeId):MR w rs ((wx.heap.size,cs,T) :: P) (wx.alloc (.cells cs T)):=
 ⟨(h.alloc _).bel,(h.alloc _).own,h.dis,fun p hp=>by
  rcases List.mem_cons.1 hp with rfl | hp
  ·exact ⟨heap_alloc_new wx _,h.size,fun r hr e=>by have:=((h.own r hr).block _ e).2; dsimp only at this; omega⟩
  ·exact (h.alloc _).prv p hp⟩
theorem MR.less (h:MR w rs P wx) (hq:∀ p ∈ Q,p ∈ P):MR w rs Q wx:=⟨h.bel,h.own,h.dis,fun p hp=>h.prv p (hq p hp)⟩
theorem MR.perm (h:MR w rs P wx) (hp:rs.Perm rs'):MR w rs' P wx:=
 ⟨h.bel,fun r hr=>h.own r (hp.mem_iff.2 hr),(hp.pairwise_iff (fun h=>Apart.symm h)).1 h.dis,fun p hp2=>⟨(h.prv p hp2).1,(h.prv p hp2).2.1,fun r hr=>(h.prv p hp2).2.2 r (hp.mem_iff.2 hr)⟩⟩
theorem MR.set {b i:Nat} {cs:Array Value} {T:TypeId} (h:MR w rs ((b,cs,T) :: P) wx) (u:Value) (hd:∀ p ∈ P,p.1 ≠ b):MR w rs ((b,cs.setIfInBounds i u,T) :: P) (wx.setCell ⟨b,i,none⟩ u):=by
 obtain ⟨h1,h2,h3⟩:=h.prv (b,cs,T) (by simp)
 have ho:∀ k,k ≠ b → (wx.setCell ⟨b,i,none⟩ u).heap[k]? = wx.heap[k]?:=fun k hk=>Below.heap_setCell wx ⟨b,i,none⟩ u k (by exact hk)
 refine ⟨belSet h.bel h2 u,fun r hr=>(h.own r hr).keepV fun g hg=>ho g (fun e=>h3 r hr (by rw [hg,e])),h.dis,fun p hp=>?_⟩
 rcases List.mem_cons.1 hp with rfl | hp
 ·exact ⟨by simp [World.setCell,Array.getElem?_modify,h1],h2,h3⟩
 ·exact ⟨(ho p.1 (hd p hp)).trans (h.prv p (by simp [hp])).1,(h.prv p (by simp [hp])).2⟩
theorem MR.grow {t:TypeId} {l l':List Value} {v v':Value} {g:Nat} (h:MR w ((t,l,v) :: rs) P wx) (hown:Own valR wy w.heap.size w.heap.size t l' v') (hg:wx.grownBy wy v.ownBlock) (hv:v'.ownBlock = some g) (hat:v.ownBlock = some g ∨ wx.heap.size ≤ g):MR w ((t,l',v') :: rs) P wy:=by
 have hz:=h.size
 have h0:=h.own (t,l,v) (by simp)
 have hd:=List.pairwise_cons.1 h.dis
 refine ⟨h.bel.grown hg hz (fun k hk=>(h0.block k hk).1),fun r hr=>?_,List.pairwise_cons.2 ⟨fun r hr q hq=>?_,hd.2⟩,fun p hp=>?_⟩
 ·rcases List.mem_cons.1 hr with rfl | hr
  ·exact hown
  ·have hro:=h.own r (by simp [hr])
   exact hro.keepV fun q hq=>hg.block q (hro.block q hq).2 (fun e=>hd.1 r hr q e.symm hq)
 ·rw [hv] at hq
  injection hq with hq
  subst hq
  intro e
  rcases hat with hat | hat
  ·exact hd.1 r hr g hat e
  ·have:=((h.own r (by simp [hr])).block _ e).2; omega
 ·obtain ⟨k1,k2,k3⟩:=h.prv p hp
  have hlt:=heap_lt k1
  refine ⟨(hg.block p.1 hlt (fun e=>k3 (t,l,v) (by simp) e.symm)).trans k1,k2,fun r hr=>?_⟩
  rcases List.mem_cons.1 hr with rfl | hr
  ·rw [hv]
   intro e
   injection e with e
   rcases hat with hat | hat
   ·exact k3 (t,l,v) (by simp) (by rw [hat,e])
   ·omega
  ·exact k3 r (by simp [hr])
end
theorem oper_mrPush {P:Program} {o:Oper} {a:Act} {K:Act → World → Prop} {Q:Exit → Act → World → Prop} (hgd:o.guard = none) (s x:Operand) (t:TypeId)
  (ho:o.op = .call { callee:=.builtin .append,args:=#[s,x],argTypes:=#[t,t] })
  (e:TypeId) (i:TypeInfo) (z:Value) (bytes:Nat) (ht:P.underlying t = some (.slice e)) (hi:P.info? e = some i) (hz:i.zero = some z)
  (hsize:i.size = 1) (hby:i.bytes = bytes) (hzs:z.cells.size = 1) {w:World} {rs:List Row} {Ps:List Pc}
  (W:World) (v:Value) (l:List Value) (n:Nat) (hn:l.length = n) (hs:a.eval s = v) (hM:MR w ((e,l,v) :: rs) Ps W) (y:Value) (h1:y.oneCell' = true)
  (B:Nat) (T:TypeId) (c:Nat) (hB:W.heap[B]? = some (.cells #[y] T (0,0))) (hx:a.eval x = .slice (some ⟨B,0,none⟩) 1 c) (h63:n + 1 ≤ maxLen) (hbytes:(n + 1) * bytes ≤ 140737488355328)
  (h:∀ g cap w',MR w ((e,l ++ [y],.slice (some ⟨g,0,none⟩) (n + 1) cap) :: rs) Ps w' → K (a.put o.dst (.slice (some ⟨g,0,none⟩) (n + 1) cap)) w') :
  Oper.wp P o a W K Q:=by
 subst hn
 exact oper_push (R:=valR) hgd s x t ho w.heap.size w.heap.size e i z bytes ht hi hz hsize hby hzs (by decide) W v l hs (hM.own _ (List.mem_cons_self ..)) y [y] rfl (by intro u hu; rw [List.mem_singleton.1 hu]; exact h1) B T c hB hx h63 hbytes hM.size fun g cap w' h2 h3 h4 h5=>
  h g cap w' (hM.grow h2 h3 rfl (h4.imp id fun h=>Nat.le_of_eq h.symm))
theorem wpList_mrPush {P:Program} {ops:Array Oper} {rest:List Oper} {o:Oper} {a:Act} {Q:Exit → Act → World → Prop} (hgd:o.guard = none) (s x:Operand) (t:TypeId)
  (ho:o.op = .call { callee:=.builtin .append,args:=#[s,x],argTypes:=#[t,t] })
  (e:TypeId) (i:TypeInfo) (z:Value) (bytes:Nat) (ht:P.underlying t = some (.slice e)) (hi:P.info? e = some i) (hz:i.zero = some z)
  (hsize:i.size = 1) (hby:i.bytes = bytes) (hzs:z.cells.size = 1) {w:World} {rs:List Row} {Ps:List Pc}
  (W:World) (v:Value) (l:List Value) (n:Nat) (hn:l.length = n) (hs:a.eval s = v) (hM:MR w ((e,l,v) :: rs) Ps W) (y:Value) (h1:y.oneCell' = true)
  (B:Nat) (T:TypeId) (c:Nat) (hB:W.heap[B]? = some (.cells #[y] T (0,0))) (hx:a.eval x = .slice (some ⟨B,0,none⟩) 1 c) (h63:n + 1 ≤ maxLen) (hbytes:(n + 1) * bytes ≤ 140737488355328)
  (h:∀ g cap w',MR w ((e,l ++ [y],.slice (some ⟨g,0,none⟩) (n + 1) cap) :: rs) Ps w' → wpList P ops Q rest (a.put o.dst (.slice (some ⟨g,0,none⟩) (n + 1) cap)) w') :
  wpList P ops Q (o :: rest) a W:=
 wpList_plain hgd fun K hK=>oper_mrPush hgd s x t ho e i z bytes ht hi hz hsize hby hzs W v l n hn hs hM y h1 B T c hB hx h63 hbytes fun g cap w' h2=>hK _ _ (h g cap w' h2)
theorem oper_mrApp {P:Program} {o:Oper} {a:Act} {K:Act → World → Prop} {Q:Exit → Act → World → Prop} (s x:Operand) (t:TypeId)
  (ho:o.op = .call { callee:=.builtin .append,args:=#[s,x],argTypes:=#[t,t] })
  (e:TypeId) (i:TypeInfo) (z:Value) (bytes:Nat) (ht:P.underlying t = some (.slice e)) (hi:P.info? e = some i) (hz:i.zero = some z)
  (hsize:i.size = 1) (hby:i.bytes = bytes) (hzs:z.cells.size = 1) {w:World} {rs:List Row} {Ps:List Pc} {F:Nat → Prop}
  (W:World) (v:Value) (l:List ByteArray) (hs:a.eval s = v) (hM:MR w ((e,l.map .string,v) :: rs) Ps W) (ys:List ByteArray) (ad:Option Addr) (m c:Nat) (hx:a.eval x = .slice ad m c) (hy:Sli strR W F ys (.slice ad m c)) (hm:ys.length = m) (h63:l.length + m ≤ maxLen) (hbytes:(l.length + m) * bytes ≤ 140737488355328)
  (h:∀ v' w',MR w ((e,(l ++ ys).map .string,v') :: rs) Ps w' → K (a.put o.dst v') w') :
  Oper.wp P o a W K Q:=by
 have ho0:=hM.own _ (List.mem_cons_self ..)
 by_cases h0:m = 0
 ·subst h0
  have hys:ys = []:=List.eq_nil_of_length_eq_zero hm
  subst hys
  exact oper_app0 s x t ho w.heap.size w.heap.size e i ht hi W v (l.map Value.string) hs ho0 ad c hx (h v W (by rw [List.append_nil]; exact hM))
 ·exact oper_appL (enc:=fun s:ByteArray=>[.string s]) (hn:=fun _=>rfl) s x t ho w.heap.size w.heap.size e i z bytes ht hi hz hsize hby hzs (by decide) (fun x u hu=>by rw [List.mem_singleton.1 hu]; rfl) W v l hs (Own.strs ho0) ys ad m c hx hy hm (by omega) h63 hbytes hM.size fun g cap w' h2 h3 h4 h5=>
   h _ w' (hM.grow (Own.vals h2) h3 rfl (h4.imp id fun h=>Nat.le_of_eq h.symm))
end
section
open Go.RowKit Go.Sort
theorem MR.pick {w wx:World} {a b:List Row} {r:Row} {P:List Pc} (h:MR w (a ++ r :: b) P wx):MR w (r :: (a ++ b)) P wx:=h.perm List.perm_middle
theorem MR.unpick {w wx:World} {a b:List Row} {r:Row} {P:List Pc} (h:MR w (r :: (a ++ b)) P wx):MR w (a ++ r :: b) P wx:=h.perm List.perm_middle.symm
theorem MR.p2 {w wx:World} {rs:List Row} {a b:Pc} {X:List Pc} (h:MR w rs (a :: b :: X) wx):MR w rs (b :: a :: X) wx:=h.less fun q hq=>by
 simp only [List.mem_cons] at hq ⊢
 rcases hq with h | h | h <;> simp [h]
theorem MR.p3 {w wx:World} {rs:List Row} {a b c:Pc} {X:List Pc} (h:MR w rs (a :: b :: c :: X) wx):MR w rs (c :: a :: b :: X) wx:=h.less fun q hq=>by
 simp only [List.mem_cons] at hq ⊢
 rcases hq with h | h | h | h <;> simp [h]
theorem MR.p3' {w wx:World} {rs:List Row} {a b c:Pc} {X:List Pc} (h:MR w rs (c :: a :: b :: X) wx):MR w rs (a :: b :: c :: X) wx:=h.less fun q hq=>by
 simp only [List.mem_cons] at hq ⊢
 rcases hq with h | h | h | h <;> simp [h]
structure LyM (w:World) (o p f:Nat) (Ps:List (List ByteArray × Value)) (pg:List ByteArray) (pv pgV:Value) (fs:List Value) (fV:Value) (st:List Nat) (sV:Value) (fi:Int) (X:List Pc) (wx:World):Prop where
 mr:MR w ((9,pg.map .string,pv) :: (31,Ps.map (·.2),pgV) :: (3,fs,fV) :: (3,st.map (fun k:Nat=>Value.int .i64 (k:Int)),sV) :: Ps.map (fun q=>(9,q.1.map Value.string,q.2)))
  ((o,#[pgV,fV,sV],102) :: (p,#[pv],31) :: (f,#[.int .i64 fi],3) :: X) wx
 fl:fs.length = Ps.length
 ne:o ≠ p ∧ o ≠ f ∧ p ≠ f ∧ ∀ x ∈ X,x.1 ≠ o ∧ x.1 ≠ p ∧ x.1 ≠ f
section
variable {w wx wy:World} {o p f:Nat} {Ps:List (List ByteArray × Value)} {pg:List ByteArray} {pv pgV fV sV:Value} {fs:List Value} {st:List Nat} {fi:Int} {X Y:List Pc}
theorem LyM.below (h:LyM w o p f Ps pg pv pgV fs fV st sV fi X wx) (hb:Below wx.heap.size wx wy):LyM w o p f Ps pg pv pgV fs fV st sV fi X wy:=⟨h.mr.below hb,h.fl,h.ne⟩
theorem LyM.new (h:LyM w o p f Ps pg pv pgV fs fV st sV fi X wx) (cs:Array Value) (T:TypeId):LyM w o p f Ps pg pv pgV fs fV st sV fi ((wx.heap.size,cs,T) :: X) (wx.alloc (.cells cs T)):=
 ⟨(h.mr.new cs T).less fun q hq=>by
  simp only [List.mem_cons] at hq ⊢
  rcases hq with h | h | h | h | h <;> simp [h],h.fl,h.ne.1,h.ne.2.1,h.ne.2.2.1,fun x hx=>by
  have k1:=h.mr.plt (p:=(o,#[pgV,fV,sV],102)) (by simp)
  have k2:=h.mr.plt (p:=(p,#[pv],31)) (by simp)
  have k3:=h.mr.plt (p:=(f,#[.int .i64 fi],3)) (by simp)
  rcases List.mem_cons.1 hx with rfl | hx
  ·dsimp only at k1 k2 k3 ⊢; omega
  ·exact h.ne.2.2.2 x hx⟩
theorem LyM.less (h:LyM w o p f Ps pg pv pgV fs fV st sV fi X wx) (hq:∀ q ∈ Y,q ∈ X):LyM w o p f Ps pg pv pgV fs fV st sV fi Y wx:=
 ⟨h.mr.less fun q hq2=>by
  simp only [List.mem_cons] at hq2 ⊢
  rcases hq2 with h | h | h | h
  ·simp [h]
  ·simp [h]
  ·simp [h]
  ·simp [hq q h],h.fl,h.ne.1,h.ne.2.1,h.ne.2.2.1,fun x hx=>h.ne.2.2.2 x (hq x hx)⟩
theorem LyM.setF (h:LyM w o p f Ps pg pv pgV fs fV st sV fi X wx) (i:Int):LyM w o p f Ps pg pv pgV fs fV st sV i X (wx.setCell ⟨f,0,none⟩ (.int .i64 i)):=
 ⟨MR.p3' ((MR.p3 h.mr).set (i:=0) (.int .i64 i) fun q hq=>by
  simp only [List.mem_cons] at hq
  rcases hq with rfl | rfl | hq
  ·exact h.ne.2.1
  ·exact h.ne.2.2.1
  ·exact (h.ne.2.2.2 q hq).2.2),h.fl,h.ne⟩
theorem LyM.drew (h:LyM w o p f Ps pg pv pgV fs fV st sV fi X wx):LyM w o p f Ps pg pv pgV fs fV st sV fi X wx.drew:=⟨h.mr.drew,h.fl,h.ne⟩
theorem LyM.page {pg2:List ByteArray} {v2:Value} (h:MR w ((9,pg2.map .string,v2) :: (31,Ps.map (·.2),pgV) :: (3,fs,fV) :: (3,st.map (fun k:Nat=>Value.int .i64 (k:Int)),sV) :: Ps.map (fun q=>(9,q.1.map Value.string,q.2)))
  ((o,#[pgV,fV,sV],102) :: (p,#[pv],31) :: (f,#[.int .i64 fi],3) :: X) wx) (hf:fs.length = Ps.length) (hne:o ≠ p ∧ o ≠ f ∧ p ≠ f ∧ ∀ x ∈ X,x.1 ≠ o ∧ x.1 ≠ p ∧ x.1 ≠ f) :
  LyM w o p f Ps pg2 v2 pgV fs fV st sV fi X (wx.setCell ⟨p,0,none⟩ v2):=
 ⟨MR.p2 ((MR.p2 h).set (i:=0) v2 fun q hq=>by
  simp only [List.mem_cons] at hq
  rcases hq with rfl | rfl | hq
  ·exact hne.1
  ·exact fun e=>hne.2.2.1 e.symm
  ·exact (hne.2.2.2 q hq).2.1),hf,hne⟩
theorem LyM.starts {st2:List Nat} {v2:Value} (h:MR w ((3,st2.map (fun k:Nat=>Value.int .i64 (k:Int)),v2) :: ([(9,pg.map .string,pv),(31,Ps.map (·.2),pgV),(3,fs,fV)] ++ Ps.map (fun q=>(9,q.1.map Value.string,q.2))))
  ((o,#[pgV,fV,sV],102) :: (p,#[pv],31) :: (f,#[.int .i64 fi],3) :: X) wx) (hf:fs.length = Ps.length) (hne:o ≠ p ∧ o ≠ f ∧ p ≠ f ∧ ∀ x ∈ X,x.1 ≠ o ∧ x.1 ≠ p ∧ x.1 ≠ f) :
  LyM w o p f Ps pg pv pgV fs fV st2 v2 fi X (wx.setCell ⟨o,2,none⟩ v2):=
 ⟨MR.unpick (a:=[(9,pg.map .string,pv),(31,Ps.map (·.2),pgV),(3,fs,fV)]) (h.set (i:=2) v2 fun q hq=>by
  simp only [List.mem_cons] at hq
  rcases hq with rfl | rfl | hq
  ·exact fun e=>hne.1 e.symm
  ·exact fun e=>hne.2.1 e.symm
  ·exact (hne.2.2.2 q hq).1),hf,hne⟩
theorem LyM.cells (h:LyM w o p f Ps pg pv pgV fs fV st sV fi X wx):(wx.cell? ⟨o,0,none⟩ = some pgV ∧ wx.cell? ⟨o,1,none⟩ = some fV ∧ wx.cell? ⟨o,2,none⟩ = some sV ∧ wx.cell? ⟨p,0,none⟩ = some pv ∧ wx.cell? ⟨f,0,none⟩ = some (.int .i64 fi)) ∧ (∀ i,wx.frozen? ⟨o,i,none⟩ = false) ∧ (∀ i,wx.frozen? ⟨p,i,none⟩ = false) ∧ (∀ i,wx.frozen? ⟨f,i,none⟩ = false):=by
 obtain ⟨a,a2⟩:=h.mr.cell (p:=(o,#[pgV,fV,sV],102)) (by simp)
 obtain ⟨b,b2⟩:=h.mr.cell (p:=(p,#[pv],31)) (by simp)
 obtain ⟨c,c2⟩:=h.mr.cell (p:=(f,#[.int .i64 fi],3)) (by simp)
 exact ⟨⟨a 0,a 1,a 2,b 0,c 0⟩,a2,b2,c2⟩
theorem LyM.form (h:LyM w o p f Ps pg pv pgV fs fV st sV fi X wx):(∃ A c,pv = .slice A pg.length c) ∧ (∃ A c,pgV = .slice A Ps.length c) ∧ (∃ A c,fV = .slice A fs.length c) ∧ ∃ A c,sV = .slice A st.length c:=by
 have key:∀ (t:TypeId) (l:List Value) (v:Value),Own valR wx w.heap.size w.heap.size t l v → ∃ A c,v = .slice A l.length c:=fun t l v h=>by
  rcases h.form with ⟨rfl,rfl⟩ | ⟨g,c,rfl,_⟩
  ·exact ⟨_,_,rfl⟩
  ·exact ⟨_,_,rfl⟩
 obtain ⟨_,_,e1⟩:=key _ _ _ (h.mr.own _ (List.mem_cons_self ..))
 obtain ⟨_,_,e2⟩:=key _ _ _ (h.mr.own (31,Ps.map (·.2),pgV) (by simp))
 obtain ⟨_,_,e3⟩:=key _ _ _ (h.mr.own (3,fs,fV) (by simp))
 obtain ⟨_,_,e4⟩:=key _ _ _ (h.mr.own (3,st.map (fun k:Nat=>Value.int .i64 (k:Int)),sV) (by simp))
 rw [List.length_map] at e1 e2 e4
 exact ⟨⟨_,_,e1⟩,⟨_,_,e2⟩,⟨_,_,e3⟩,⟨_,_,e4⟩⟩
end
end
section
open Go.RowKit Go.Sort
def pagesB (l:List Blk):List (List ByteArray):=(layB l [] [] []).1 ++ (if (layB l [] [] []).2.1 = [] then [] else [(layB l [] [] []).2.1])
theorem need_le {b:Blk} {r:List Blk} {M:Nat} (hb:b.lines.length ≤ M) (hr:∀ y ∈ r,y.lines.length ≤ M):needB b r ≤ 2 * M + 8:=by
 have h1:=leastB_le (b:=b)
 unfold needB
 split
 ·cases r with
  | nil=>dsimp only; omega
  | cons y t=>
   have h2:=leastB_le (b:=y)
   have h3:=hr y (by simp)
   dsimp only
   split <;> omega
 ·omega
end
end Go.Proofs.YtaoobkgepcikiaaGreatDoor
