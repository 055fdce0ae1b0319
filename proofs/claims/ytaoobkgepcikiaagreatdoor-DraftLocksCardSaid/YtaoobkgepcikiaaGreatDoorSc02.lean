/- Texts packed: OwnLm, PushS, PushZ, RollW, RollX, ScriptT, DelW, SegIn, SeqC, KeepM, Shelf, AtoiW, BldW, BldK, LawA, RefA, Shelf2, Shelf3, InsW, Str, CodeW, CutS, CutW, DecW, GenC, GenE, HexW, FilesW, FilesX, FilesY, EqI, LaidW, NumS, PlainS, SlateS, TkS, NextS, TlS, WdS, WpS. -/
import Derived.Test.YtaoobkgepcikiaaGreatDoorSc01
import Derived.Lib.AppendZeros
import Derived.Maps.AppendAt
import Derived.Test.YtaoobkgepcikiaaGreatDoorRows
import Derived.BigQuiet
import Derived.Deep.RegionWith
import Derived.Deep.QuietTactic
import Derived.Deep.RegionLaw
import Derived.Laws.IdiomCopy
import Derived.Lib.SliceRun
import Derived.Deep.DeepCutAuto
import Derived.RangeFuncBox
import Derived.RangeFuncLeaves
import Derived.RangeFuncFrom
import Derived.Shelf.Strings.Builder1
import Derived.Shelf.Strings.Builder2
import Derived.Shelf.Strings.OnBuilder
import Derived.Shelf.Strings.Trim
import Derived.Shelf.Small.Utf8
import Derived.Shelf.Small.Bits
import Derived.Shelf.Small.Strs
import Derived.Shelf.Small.Wraps
import Derived.Shelf.Strings.BuilderF
import Derived.Shelf.Strings.BuilderK
import Derived.Shelf.Strings.Builder2Cap
import Derived.Shelf.Strconv.Atoi
import Derived.Shelf.Strconv.Itoa0
import Derived.Shelf.Strconv.Itoa1
import Derived.Shelf.LaysM
import Derived.Shelf.Strconv.Itoa2
import Derived.Shelf.Strconv.Itoa3
import Derived.Shelf.Strconv.AtoiErrFast
import Derived.Shelf.Strconv.ParseIntEmpty
import Derived.Shelf.Strconv.AtoiFail
import Derived.Shelf.Strconv.Clone
import Derived.Shelf.Strconv.SyntaxError
import Derived.Shelf.LaysC
import Derived.Shelf.Strconv.ToError
import Derived.Shelf.Strconv.Lower
import Derived.Shelf.Strconv.ParseUint10
import Derived.Shelf.Strconv.ParseUint10Empty
import Derived.Shelf.Strconv.ParseUint10Any
import Derived.Shelf.Strconv.ParseInt10
import Derived.Shelf.Strconv.AtoiLong
import Derived.Shelf.Strconv.AtoiInnerAll
import Derived.Shelf.Strconv.RangeError
import Derived.Shelf.Strconv.ToErrorRange
import Derived.Shelf.Strconv.AtoiAll
import Derived.Shelf.Strconv.ErrVarAll
import Derived.Shelf.Strings.Search1
import Derived.Shelf.Strings.Search2
import Derived.Shelf.Strings.Search3
import Derived.Shelf.Strings.Shaped
import Derived.Shelf.Strings.Prefix
import Derived.Shelf.Strings.Fields
import Derived.Shelf.Strings.SplitShaped
import Derived.Shelf.Unicode.Latin
import Derived.Shelf.Unicode.Decode
import Derived.Shelf.Strings.Runes
import Derived.Shelf.Strings.IndexAny
import Derived.Shelf.Strings.AsciiSet
import Derived.Shelf.Strings.IndexAnyAll
import Derived.Shelf.Bits.Mul64
import Derived.Shelf.Strings.Repeat
import Derived.Shelf.Unicode.DecodeSlow
import Derived.Shelf.Unicode.DecodeAny
import Derived.Shelf.Unicode.Is16White
import Derived.Shelf.Unicode.IsSpaceAny
import Derived.Shelf.Unicode.DecodeLast
import Derived.Shelf.Strings.FieldsFuncAny
import Derived.Shelf.Unicode.Is16Any
import Derived.Shelf.Unicode.Is32Any
import Derived.Shelf.Unicode.ExclAny
import Derived.Shelf.Strings.FieldsFuncGrows
import Derived.Shelf.Strings.BuilderCap
import Derived.Shelf.Slices.Equal
import Derived.Ground.Names2Prog
import Derived.Shelf.Slices.Clone
import Derived.Shelf.Slices.Empties2
import Derived.Ground.SlgnProg
import Derived.Shelf.SlicesE.Equal
import Derived.Test.YtaoobkgepcikiaaGreatDoorProg
import Derived.Lib.SmallJoins
import Derived.Shelf.Strings.SlTrimAscii
import Derived.Shelf.Slices.Delete
import Derived.Shelf.Spec.SlicesInsert
import Derived.Shelf.Spec.SlicesInsertGrow
import Derived.Laws.IdiomStrings
import Derived.Lib.QuietBelow
import Derived.Lib.IndexLaws
import Derived.Laws.Bits64
import Derived.Laws.Bits64b
import Derived.Lib.Repeat
import Derived.Outline
import Derived.Deep.RegionHeld3
import Derived.Deep.AppendLies
import Derived.Lib.ItoaLen
import Derived.Lib.Strings
import Derived.Lib.ItoaNum
import Derived.Lib.FieldsP
import Derived.Lib.IndexMore
import Derived.Lib.Slices
namespace Go.Proofs.YtaoobkgepcikiaaGreatDoor
set_option linter.unusedVariables false
section
open Go.RowKit
section
variable {α:Type} {n:Nat} {enc:α → List Value} {hn:∀ x,(enc x).length = n}
theorem Lay.cells1m {w:World} {F:Nat → Prop} {l:List α} {cs:List Value} (h:Lay (Rep.flat n enc hn) w F l cs) (h0:0 < n) (h1:∀ x ∈ l,∀ u ∈ enc x,u.oneCell' = true):∀ u ∈ cs,u.oneCell' = true:=by
 intro u hu
 obtain ⟨j,hj⟩:=List.mem_iff_getElem?.1 hu
 have hlt:=(List.getElem?_eq_some_iff.1 hj).1
 have hlen:cs.length = l.length * n:=h.1
 have hk:j / n < l.length:=by
  rw [Nat.div_lt_iff_lt_mul h0]
  omega
 have he:(cs.drop (j / n * n)).take n = enc l[j / n]:=h.2 _ _ (List.getElem?_eq_getElem hk)
 refine h1 l[j / n] (List.getElem_mem hk) u ?_
 rw [← he]
 refine List.mem_iff_getElem?.2 ⟨j % n,?_⟩
 rw [List.getElem?_take_of_lt (Nat.mod_lt _ h0),List.getElem?_drop,Nat.mul_comm,Nat.div_add_mod]
 exact hj
theorem oper_appLm {P:Program} {o:Oper} {a:Act} {K:Act → World → Prop} {Q:Exit → Act → World → Prop} (s x:Operand) (t:TypeId)
  (ho:o.op = .call { callee:=.builtin .append,args:=#[s,x],argTypes:=#[t,t] })
  (base lo:Nat) (e:TypeId) (i:TypeInfo) (z:Value) (bytes:Nat) (ht:P.underlying t = some (.slice e)) (hi:P.info? e = some i) (hz:i.zero = some z)
  (hsize:i.size = n) (hby:i.bytes = bytes) (hzs:z.cells.size = n) (hsz:0 < n)
  (W:World) (v:Value) (l:List α) (hs:a.eval s = v) (hown:Own (Rep.flat n enc hn) W base lo e l v) {F:Nat → Prop} (ys:List α) (h1:∀ x ∈ ys,∀ u ∈ enc x,u.oneCell' = true) (ad:Option Addr) (m c:Nat) (hx:a.eval x = .slice ad m c) (hy:Sli (Rep.flat n enc hn) W F ys (.slice ad m c)) (hm:ys.length = m) (h0:0 < m)
  (h63:l.length + m ≤ maxLen) (hbytes:(l.length + m) * bytes ≤ 140737488355328) (hbase:base ≤ W.heap.size)
  (h:∀ g cap w',Own (Rep.flat n enc hn) w' base lo e (l ++ ys) (.slice (some ⟨g,0,none⟩) (l.length + m) cap) → W.grownBy w' v.ownBlock → (v.ownBlock = some g ∨ g = W.heap.size) → g < w'.heap.size → K (a.put o.dst (.slice (some ⟨g,0,none⟩) (l.length + m) cap)) w') :
  Oper.wp P o a W K Q:=by
 obtain ⟨xs,hor,hl⟩:=hown
 subst hm
 obtain ⟨A,c',ea,_,_,h3⟩:=hy
 injection ea with e1 e2 e3
 subst e1; subst e3
 obtain ⟨b,off,cs,rfl,_,hly,hc⟩:=h3 h0
 have hcl:cs.length = ys.length * n:=hly.1
 refine wp_append_lies W s x t ho base e i z n bytes ht hi hz hsize hby hzs hsz v l.length xs hs hor ⟨b,off,none⟩ ys.length c cs hx hcl (fun j u hj=>by rw [addrAdd]; exact hc j u hj) (hly.cells1m hsz h1) h0 h63 hbytes hbase W.heap.size rfl ?_
 intro g cap w' h2 h4 h5 h6
 exact h g cap w' ⟨_,by rw [List.length_append]; exact h2,Lay.app hl.any hly.any⟩ h4 h5 h6
theorem wpList_appLm {P:Program} {ops:Array Oper} {rest:List Oper} {o:Oper} {a:Act} {Q:Exit → Act → World → Prop} (hgd:o.guard = none) (s x:Operand) (t:TypeId)
  (ho:o.op = .call { callee:=.builtin .append,args:=#[s,x],argTypes:=#[t,t] })
  (base lo:Nat) (e:TypeId) (i:TypeInfo) (z:Value) (bytes:Nat) (ht:P.underlying t = some (.slice e)) (hi:P.info? e = some i) (hz:i.zero = some z)
  (hsize:i.size = n) (hby:i.bytes = bytes) (hzs:z.cells.size = n) (hsz:0 < n)
  (W:World) (v:Value) (l:List α) (hs:a.eval s = v) (hown:Own (Rep.flat n enc hn) W base lo e l v) {F:Nat → Prop} (ys:List α) (h1:∀ x ∈ ys,∀ u ∈ enc x,u.oneCell' = true) (ad:Option Addr) (m c:Nat) (hx:a.eval x = .slice ad m c) (hy:Sli (Rep.flat n enc hn) W F ys (.slice ad m c)) (hm:ys.length = m) (h0:0 < m)
  (h63:l.length + m ≤ maxLen) (hbytes:(l.length + m) * bytes ≤ 140737488355328) (hbase:base ≤ W.heap.size)
  (h:∀ g cap w',Own (Rep.flat n enc hn) w' base lo e (l ++ ys) (.slice (some ⟨g,0,none⟩) (l.length + m) cap) → W.grownBy w' v.ownBlock → (v.ownBlock = some g ∨ g = W.heap.size) → g < w'.heap.size → wpList P ops Q rest (a.put o.dst (.slice (some ⟨g,0,none⟩) (l.length + m) cap)) w') :
  wpList P ops Q (o :: rest) a W:=
 wpList_plain hgd fun K hK=>oper_appLm s x t ho base lo e i z bytes ht hi hz hsize hby hzs hsz W v l hs hown ys h1 ad m c hx hy hm h0 h63 hbytes hbase fun g cap w' h2 h3 h4 h5=>hK _ _ (h g cap w' h2 h3 h4 h5)
end
end
section
open Go.RowKit
end
section
open Go.RowKit
theorem run_app0 {P:Program} {α:Type} {R:Rep α} (w:World) (t ty e:TypeId) (i:TypeInfo) (base lo:Nat) (ht:P.underlying t = some (.slice e)) (hi:P.info? e = some i) (v:Value) (l:List α) (hown:Own R w base lo e l v) (ad:Option Addr) (c:Nat) :
  (Builtin.append_ #[t,t] ty #[v,.slice ad 0 c]).run P w = .ok v w:=by
 obtain ⟨xs,hor,_⟩:=hown
 rcases hor.2 with ⟨rfl,h0⟩ | ⟨g,cap,cur,rfl,hbg,hg,hnc,hcm,hcs,htake⟩
 ·cases ad <;> simp [Builtin.append_,run_underlying ht,sizeOf,typeInfo,hi,Builtin.lenOf,Builtin.firstCells,loadCells,loadCellsFrom]
 ·cases ad <;> simp [Builtin.append_,run_underlying ht,sizeOf,typeInfo,hi,Builtin.lenOf,Builtin.firstCells,loadCells,loadCellsFrom,hnc,storeCells]
theorem oper_app0 {P:Program} {α:Type} {R:Rep α} {o:Oper} {a:Act} {K:Act → World → Prop} {Q:Exit → Act → World → Prop} (s x:Operand) (t:TypeId)
  (ho:o.op = .call { callee:=.builtin .append,args:=#[s,x],argTypes:=#[t,t] })
  (base lo:Nat) (e:TypeId) (i:TypeInfo) (ht:P.underlying t = some (.slice e)) (hi:P.info? e = some i) (W:World) (v:Value) (l:List α) (hs:a.eval s = v) (hown:Own R W base lo e l v) (ad:Option Addr) (c:Nat) (hx:a.eval x = .slice ad 0 c)
  (h:K (a.put o.dst v) W):Oper.wp P o a W K Q:=
 Lib.wp_append_run W s x t t ho v (.slice ad 0 c) hs hx _ W (run_app0 (P:=P) W t o.type e i base lo ht hi v l hown ad c) h
end
section
open Go.RowKit
end
section
open Go.RowKit
theorem cellC {w W:World} {b:Nat} {v:Value} (h:w.cell? ⟨b,0,none⟩ = some v) (hb:Below w.heap.size w W) (hlt:b < w.heap.size):W.cell? ⟨b,0,none⟩ = some v:=(hb.cell (p:=⟨b,0,none⟩) hlt).trans h
end
section
open Go.RowKit
structure Para where
 kind:Int
 text:ByteArray
structure Scene where
 no:ByteArray
 place:Int
 set:ByteArray
 time:Int
 paras:List Para
structure Script where
 title:ByteArray
 scenes:List Scene
def Para.cells (p:Para):List Value:=[.int .i64 p.kind,.string p.text]
def paraR:Rep Para:=Rep.flat 2 Para.cells (fun _=>rfl)
def Scene.cells (s:Scene) (v:Value):List Value:=[.string s.no,.int .i64 s.place,.string s.set,.int .i64 s.time,v]
theorem para_at {w:World} {F:Nat → Prop} {l:List Para} {A:Option Addr} {n c:Nat} (h:Sli paraR w F l (.slice A n c)) (k:Nat) (hk:k < l.length) :
  ∃ b off,A = some ⟨b,off,none⟩ ∧ F b ∧ w.cell? ⟨b,off + k * 2,none⟩ = some (.int .i64 l[k].kind) ∧ w.cell? ⟨b,off + k * 2 + 1,none⟩ = some (.string l[k].text):=by
 obtain ⟨b,off,a,ea,hb,e,hc⟩:=h.at_ k hk
 have e':a = Para.cells l[k]:=e
 subst e'
 exact ⟨b,off,ea,hb,hc 0 _ rfl,hc 1 _ rfl⟩
theorem str_at {w:World} {F:Nat → Prop} {l:List ByteArray} {A:Option Addr} {n c:Nat} (h:Sli strR w F l (.slice A n c)) (k:Nat) (hk:k < l.length) :
  ∃ b off,A = some ⟨b,off,none⟩ ∧ F b ∧ w.cell? ⟨b,off + k,none⟩ = some (.string l[k]):=by
 obtain ⟨b,off,a,ea,hb,e,hc⟩:=h.at_ k hk
 have e':a = [.string l[k]]:=e
 subst e'
 have:=hc 0 _ rfl
 exact ⟨b,off,ea,hb,by simpa [strR,Rep.flat] using this⟩
def paraBd (p:Para):Prop:=1 ≤ p.kind ∧ p.kind ≤ 5 ∧ 0 < p.text.size ∧ p.text.size ≤ 10000
def sceneBd (s:Scene):Prop:=s.no.size ≤ 1000 ∧ 0 ≤ s.place ∧ s.place ≤ 3 ∧ s.set.size ≤ 1000 ∧ 0 ≤ s.time ∧ s.time ≤ 5 ∧ s.paras.length ≤ 60 ∧ ∀ p ∈ s.paras,paraBd p
def scriptBd (x:Script):Prop:=x.title.size ≤ 1000 ∧ x.scenes.length ≤ 90 ∧ ∀ s ∈ x.scenes,sceneBd s
end
section
open Go.RowKit
theorem grown_setCell (w:World) (b o:Nat) (v:Value):w.grownBy (w.setCell ⟨b,o,none⟩ v) (some b):=
 ⟨rfl,rfl,rfl,by simp [World.setCell],fun i _ hne=>Below.heap_setCell w ⟨b,o,none⟩ v i (fun e=>hne (by rw [e]))⟩
theorem grown_setCells (b:Nat):∀ (vs:List Value) (o:Nat) (w:World),w.grownBy (w.setCells b o vs) (some b)
 | [],o,w=>⟨rfl,rfl,rfl,Nat.le_refl _,fun _ _ _=>rfl⟩
 | v :: vs,o,w=>gbTrans (grown_setCell w b o v) (grown_setCells b vs (o + 1) _)
theorem Sli.mkF {α:Type} {n:Nat} {enc:α → List Value} {hn:∀ x,(enc x).length = n} {w:World} {F:Nat → Prop} {l:List α} {g c:Nat} (hF:F g) (hc:l.length ≤ c) (hc2:c ≤ 9223372036854775807)
  (h:∀ (k:Nat) x,l[k]? = some x → ∀ j u,(enc x)[j]? = some u → w.cell? ⟨g,k * n + j,none⟩ = some u):Sli (Rep.flat n enc hn) w F l (.slice (some ⟨g,0,none⟩) l.length c):=by
 have hlay:∀ l:List α,(l.flatMap enc).length = l.length * n:=fun l=>by
  induction l with
  | nil=>simp
  | cons a r ih=>rw [List.flatMap_cons,List.length_append,hn,ih,List.length_cons,Nat.add_mul]; omega
 have hget:∀ (l:List α) (k:Nat) x,l[k]? = some x → ((l.flatMap enc).drop (k * n)).take n = enc x:=fun l=>by
  induction l with
  | nil=>intro k x hx; simp at hx
  | cons a r ih=>
   intro k x hx
   cases k with
   | zero=>
    simp at hx; subst hx
    rw [List.flatMap_cons,Nat.zero_mul,List.drop_zero,List.take_left' (hn a)]
   | succ k=>
    rw [List.flatMap_cons,show (k + 1) * n = n + k * n by rw [Nat.add_mul]; omega,← List.drop_drop,List.drop_left' (hn a)]
    exact ih k x (by simpa using hx)
 refine ⟨_,c,rfl,hc,hc2,fun _=>⟨g,0,l.flatMap enc,rfl,hF,⟨hlay l,fun k x hx=>hget l k x hx⟩,fun j u hj=>?_⟩⟩
 rw [Nat.zero_add]
 have hjl:=(List.getElem?_eq_some_iff.1 hj).1
 rw [hlay] at hjl
 by_cases h0:n = 0
 ·subst h0; omega
 ·have hk:j / n < l.length:=(Nat.div_lt_iff_lt_mul (by omega)).2 hjl
  have h2:=hget l (j / n) _ (List.getElem?_eq_getElem hk)
  have h3:(enc l[j / n])[j % n]? = some u:=by
   rw [← h2,List.getElem?_take,if_pos (Nat.mod_lt _ (by omega)),List.getElem?_drop,Nat.mul_comm,Nat.div_add_mod]
   exact hj
  have h4:=h (j / n) _ (List.getElem?_eq_getElem hk) _ u h3
  rw [Nat.mul_comm,Nat.div_add_mod] at h4
  exact h4
theorem run_clear_para (w:World) (ty:TypeId) (g o c:Nat) (h0:(w.cell? ⟨g,o,none⟩).isSome = true) (h1:(w.cell? ⟨g,o + 1,none⟩).isSome = true) (f0:w.frozen? ⟨g,o,none⟩ = false) (f1:w.frozen? ⟨g,o + 1,none⟩ = false) :
  (Builtin.clear_ #[44] ty #[.slice (some ⟨g,o,none⟩) 1 c]).run Tryz.prog w = .ok (.tuple #[]) (w.setCells g o [.int .i64 0,.string ⟨#[]⟩]):=by
 have hv:∀ w,(zeroValue 78).run Tryz.prog w = .ok (.agg #[.int .i64 0,.string ⟨#[]⟩]) w:=fun w=>by kernel_rfl
 have hzc:(Builtin.zeroCells (Value.agg #[.int .i64 0,.string ⟨#[]⟩]).cells 1).toList = [.int .i64 0,.string ⟨#[]⟩]:=by kernel_rfl
 have hst:=run_storeCells_cells (P:=Tryz.prog) g o [.int .i64 0,.string ⟨#[]⟩] 0 w (fun j hj=>by
  match j,hj with
  | 0,_=>simpa using h0
  | 1,_=>simpa using h1) (fun j hj=>by
  match j,hj with
  | 0,_=>simpa using f0
  | 1,_=>simpa using f1) (by intro v hv; simp at hv; rcases hv with rfl | rfl <;> rfl)
 simp only [Nat.add_zero] at hst
 simp [Builtin.clear_,run_underlying Tryz.underlying44,hv,hzc,hst]
def DelP (g i d cap:Nat) (l:List Para) (w:World) (e:Ending) (w':World):Prop:=e = .returned (.slice (some ⟨g,0,none⟩) (i + d) cap) ∧ Sli paraR w' (fun q=>q = g) l (.slice (some ⟨g,0,none⟩) (i + d) cap) ∧ w.grownBy w' (some g)
set_option maxRecDepth 100000 in
set_option maxHeartbeats 4000000 in
theorem delPara_c (g i d cap base lo:Nat) (l1 l2:List Para) (x:Para) (w:World) (h:Own paraR w base lo 78 (l1 ++ x :: l2) (.slice (some ⟨g,0,none⟩) (i + d + 1) cap)) (h1:l1.length = i) (h2:l2.length = d) (hl:i + d ≤ 1000000) :
  Calls Tryz.prog 37 #[.slice (some ⟨g,0,none⟩) (i + d + 1) cap,.int .i64 i,.int .i64 (i + 1)] w (DelP g i d cap (l1 ++ l2) w):=by
 obtain ⟨i0,hi0,hz0,hz1,hz2⟩:=info_parts (show (Tryz.prog.info? 78).map (fun i=>(i.zero,i.size,i.bytes)) = some (some (.agg #[.int .i64 0,.string ⟨#[]⟩]),2,24) by kernel_rfl)
 have hcap:i + d + 1 ≤ cap ∧ cap ≤ 9223372036854775807:=by
  rcases h.form with ⟨e,_⟩ | ⟨g',c',e,_,_,h3,h4⟩
  ·cases e
  ·injection e with _ e2 e3
   subst e3
   rw [← e2] at h3
   exact ⟨h3,h4⟩
 have hcell:∀ k y,(l1 ++ x :: l2)[k]? = some y → ∀ j,j < 2 → w.cell? ⟨g,k * 2 + j,none⟩ = y.cells[j]? ∧ w.frozen? ⟨g,k * 2 + j,none⟩ = false:=fun k y hy j hj=>by
  obtain ⟨hk,rfl⟩:=List.getElem?_eq_some_iff.1 hy
  exact Own.cellAt (enc:=Para.cells) h k hk j hj
 have HC:=Lib.hid hcell
 clear hcell
 obtain ⟨news,hnews⟩:∃ news,news = l2.flatMap Para.cells:=⟨_,rfl⟩
 have hfl:∀ l:List Para,(l.flatMap Para.cells).length = l.length * 2:=fun l=>by
  induction l with
  | nil=>simp
  | cons a r ih=>rw [List.flatMap_cons,List.length_append,ih,List.length_cons,Nat.add_mul,show (Para.cells a).length = 2 from rfl]; omega
 have hfg:∀ (l:List Para) (k:Nat) y,l[k]? = some y → ∀ j,j < 2 → (l.flatMap Para.cells)[k * 2 + j]? = y.cells[j]?:=fun l=>by
  induction l with
  | nil=>intro k y hy; simp at hy
  | cons a r ih=>
   intro k y hy j hj
   cases k with
   | zero=>
    simp at hy; subst hy
    rw [List.flatMap_cons,Nat.zero_mul,Nat.zero_add,List.getElem?_append_left (by show j < 2; exact hj)]
   | succ k=>
    rw [List.flatMap_cons,List.getElem?_append_right (by show 2 ≤ _; omega)]
    have:=ih k y (by simpa using hy) j hj
    rw [← this]
    congr 1
    show (k + 1) * 2 + j - 2 = _
    omega
 have hlen:news.length = d * 2:=by rw [hnews,hfl,h2]
 have hsrc:Hid (∀ t u,news[t]? = some u → w.drew.cell? ⟨g,(i + 1) * 2 + t,none⟩ = some u):=by
  intro t u hu
  have ht:=(List.getElem?_eq_some_iff.1 hu).1
  rw [hlen] at ht
  have hk:t / 2 < l2.length:=by omega
  have e:=hfg l2 (t / 2) _ (List.getElem?_eq_getElem hk) (t % 2) (Nat.mod_lt _ (by decide))
  rw [show t / 2 * 2 + t % 2 = t by omega,← hnews,hu] at e
  have hx:(l1 ++ x :: l2)[i + 1 + t / 2]? = some l2[t / 2]:=by
   rw [List.getElem?_append_right (by omega),show i + 1 + t / 2 - l1.length = t / 2 + 1 by omega,List.getElem?_cons_succ,List.getElem?_eq_getElem hk]
  have hc:=(HC.out _ _ hx (t % 2) (Nat.mod_lt _ (by decide))).1
  rw [show (i + 1 + t / 2) * 2 + t % 2 = (i + 1) * 2 + t by omega] at hc
  show w.cell? _ = _
  rw [hc,← e]
 have s1:Hid (news.length = d * 2):=hlen
 have s2:Hid (∀ u ∈ news,u.oneCell' = true):=by
  intro u hu
  rw [hnews,List.mem_flatMap] at hu
  obtain ⟨p,_,hp⟩:=hu
  simp [Para.cells] at hp
  rcases hp with rfl | rfl <;> rfl
 have s3:Hid (∀ t,t < d * 2 + 2 → (w.cell? ⟨g,i * 2 + t,none⟩).isSome = true ∧ w.frozen? ⟨g,i * 2 + t,none⟩ = false):=by
  intro t ht
  have hk:i + t / 2 < (l1 ++ x :: l2).length:=by simp; omega
  have hc:=HC.out _ _ (List.getElem?_eq_getElem hk) (t % 2) (Nat.mod_lt _ (by decide))
  rw [show (i + t / 2) * 2 + t % 2 = i * 2 + t by omega] at hc
  refine ⟨?_,hc.2⟩
  rw [hc.1,List.getElem?_eq_getElem (by show t % 2 < 2; omega)]
  rfl
 have HFG:=Lib.hid (hfg l2)
 have HNW:=Lib.hid hnews
 have hg:Hid (∀ (W1:World),W1 = w.drew.setCells g (i * 2) news → DelP g i d cap (l1 ++ l2) w (.returned (.slice (some ⟨g,0,none⟩) (i + d) cap)) (W1.setCells g ((i + d) * 2) [.int .i64 0,.string ⟨#[]⟩])):=by
  rintro W1 rfl
  refine ⟨rfl,?_,gbTrans (gbTrans (⟨rfl,rfl,rfl,Nat.le_refl _,fun _ _ _=>rfl⟩:w.grownBy w.drew (some g)) (grown_setCells g news (i * 2) w.drew)) (grown_setCells g _ _ _)⟩
  have hll:(l1 ++ l2).length = i + d:=by rw [List.length_append,h1,h2]
  have key:=Sli.mkF (n:=2) (enc:=Para.cells) (hn:=fun _=>rfl) (w:=(w.drew.setCells g (i * 2) news).setCells g ((i + d) * 2) [.int .i64 0,.string ⟨#[]⟩]) (F:=fun q=>q = g) (l:=l1 ++ l2) (g:=g) (c:=cap) rfl (by omega) hcap.2 (fun k y hy j u hj=>by
   have hk:=(List.getElem?_eq_some_iff.1 hy).1
   have hj2:j < 2:=by have:=(List.getElem?_eq_some_iff.1 hj).1; exact this
   rw [World.cell?_setCells_out g _ _ _ _ (fun _ _=>.inl (by dsimp only; omega))]
   by_cases hki:k < i
   ·rw [World.cell?_setCells_out g _ _ _ _ (fun _ _=>.inl (by dsimp only; omega))]
    have hy2:(l1 ++ x :: l2)[k]? = some y:=by rw [← hy,List.getElem?_append_left (by omega),List.getElem?_append_left (by omega)]
    exact ((HC.out k y hy2 j hj2).1).trans hj
   ·have hy2:l2[k - i]? = some y:=by rw [← hy,List.getElem?_append_right (by omega),h1]
    have e:=HFG.out (k - i) y hy2 j hj2
    rw [← HNW.out,hj] at e
    have hlt:=(List.getElem?_eq_some_iff.1 e).1
    have hc:=World.cell?_setCells_in g news (i * 2) w.drew (fun t ht=>(s3.out t (by rw [s1.out] at ht; omega)).1) ((k - i) * 2 + j) hlt
    rw [show i * 2 + ((k - i) * 2 + j) = k * 2 + j by omega] at hc
    rw [hc,← e,List.getElem?_eq_getElem hlt])
  rw [hll] at key
  exact key
 have hcl:Hid (∀ (W1:World),W1 = w.drew.setCells g (i * 2) news → ∀ ty c,(Builtin.clear_ #[44] ty #[.slice (some ⟨g,(i + d) * 2,none⟩) 1 c]).run Tryz.prog W1 = .ok (.tuple #[]) (W1.setCells g ((i + d) * 2) [.int .i64 0,.string ⟨#[]⟩])):=by
  rintro W1 rfl ty c
  have hin:∀ t,t < 2 → ((w.drew.setCells g (i * 2) news).cell? ⟨g,(i + d) * 2 + t,none⟩).isSome = true ∧ (w.drew.setCells g (i * 2) news).frozen? ⟨g,(i + d) * 2 + t,none⟩ = false:=fun t ht=>by
   rw [World.cell?_setCells_out g _ _ _ _ (fun _ _=>.inr (by rw [s1.out]; dsimp only; omega)),World.frozen?_setCells]
   have:=s3.out (d * 2 + t) (by omega)
   rw [show i * 2 + (d * 2 + t) = (i + d) * 2 + t by omega] at this
   exact this
  exact run_clear_para _ ty g _ c (hin 0 (by decide)).1 (hin 1 (by decide)).1 (hin 0 (by decide)).2 (hin 1 (by decide)).2
 have hnil:Hid (d = 0 → news = []):=fun h=>List.eq_nil_of_length_eq_zero (by rw [hlen,h])
 have b1:i ≤ cap:=by omega
 have b2:i + 1 ≤ cap:=by omega
 have hp0:(0:Int) ≤ (i:Int) + 1:=by omega
 have hp1:(i:Int) + 1 ≤ (i:Int) + d + 1:=by omega
 have hp2:((i:Int) + 1).toNat = i + 1:=by omega
 have hp4:(0:Int) ≤ (i:Int) + d + 1:=by omega
 have hp5:(i:Int) + d + 1 ≤ (cap:Int):=by omega
 have hp3:((i:Int) == (i:Int) + 1) = false:=beq_eq_false_iff_ne.2 (by omega)
 have hp6:¬ cap = i + d:=by omega
 have hp7:(i:Int) + d ≤ (i:Int) + d + 1:=by omega
 have hp8:(0:Int) ≤ (i:Int) + d:=by omega
 have hp9:((i:Int) + d).toNat = i + d:=by omega
 have hpa:((i:Int) + d + 1).toNat = i + d + 1:=by omega
 have hidc:i + d ≤ cap:=by omega
 obtain ⟨A,hA,hAS⟩:∃ A:Addr,(if cap = i + 1 then some (⟨g,0,none⟩:Addr) else some ⟨g,(i + 1) * 2,none⟩) = some A ∧ Hid (∀ t u,news[t]? = some u → w.drew.cell? (A.add t) = some u):=by
  by_cases hce:cap = i + 1
  ·refine ⟨_,if_pos hce,fun t u hu=>?_⟩
   rw [hnil.out (by omega)] at hu
   simp at hu
  ·refine ⟨_,if_neg hce,fun t u hu=>?_⟩
   rw [Addr.add_lit]
   exact hsrc.out t u hu
 clear hfl hfg hnews hlen h h1 h2 HFG HNW hcap hnil hsrc
 go_enter Tryz.func37,Tryz.ntmps37
 go_wp2_with fail
 go_region_law (refine step_append_room rfl (.tmp 22) (.tmp 25) 44 rfl 78 i0 2 Tryz.underlying44 hi0 hz1 g 0 i cap (by simp [Act.eval,Act.put]) A d (cap - (i + 1)) news (by simp [Act.eval,Act.put]; try omega) s1.out hAS.out s2.out (by omega) (fun t ht=>by rw [Nat.zero_add]; exact s3.out t (by rw [s1.out] at ht; omega)) ?_; rw [Nat.zero_add])
 generalize hW1:w.drew.setCells g (i * 2) news = W1
 have HW1:=Lib.hid hW1.symm
 have hcl2:=hcl.out W1 HW1.out
 clear hW1
 go_wp2
 go_ret
 exact hg.out W1 HW1.out
end
section
open Go.RowKit
theorem wpIn_region_segs2 {n:Nat} {P:Program} {Q:Exit → Act → World → Prop} {id:Nat} {a:Act} {w:World} {l:List Oper} (lv:Nat) (bs fw fr:List Nat) (ss:List (List Nat × List Nat × Nat)) (hm:P.follows .mixedOrders = true) (hd:l.toArray.all (fun o=>match o.op with | .defer _=>false | _=>true) = true) (hB:segsOk2 l bs fw fr ss = true) (S:World → Prop) (hS:S w.drew)
  (h:wpSegs2 P l (onlyN (Q .normal)) bs.contains fw fr ss S a w.drew):(Code.region id l.toArray true).wpIn (Fence.wide.inRound lv) n P Q a w:=by
 simp only [segsOk2,Bool.and_eq_true,decide_eq_true_eq] at hB
 obtain ⟨⟨⟨⟨⟨⟨h1,h3⟩,h4⟩,h6⟩,h7⟩,h8⟩,h9⟩:=hB
 refine wpIn_region_out lv hm hd (wpAny_of_T (S:=S) (b:=bs.contains) (p:=pureB l) _ _ _ _ ?_)
 refine Eq.mp (congrArg (fun k=>wpAnyT P .any l.toArray (onlyN (Q .normal)) S bs.contains (pureB l) k (Array.replicate l.toArray.size false) a w.drew) h4) ?_
 refine wpT_segs2 h1 (fun _ _ _ _ _ h=>h) (reads_of h8) (reads_of h9) ss S _ a w.drew (fun s hs=>?_) h3 (.inl hS) (fun k s hk hn=>?_) h
 ·have:=List.all_eq_true.1 h6 s hs
  simp only [Bool.and_eq_true] at this
  refine ⟨reads_of this.1.1,reads_of this.1.2,fun o ho=>?_⟩
  have h8:=this.2
  rw [ho] at h8
  simpa using h8
 ·have hkl:k < ss.length:=(List.getElem?_eq_some_iff.1 hk).1
  have h8:=List.all_eq_true.1 h7 k (List.mem_range.2 hkl)
  rw [hk] at h8
  simp only [Bool.or_eq_true,Bool.and_eq_true] at h8
  rcases h8 with h8 | ⟨h8,h9⟩
  ·rw [hn] at h8; cases h8
  ·refine ⟨by simpa using h8,fun s' hs'=>?_⟩
   have:=List.all_eq_true.1 h9 s' hs'
   simpa using this
end
section
open Go.RowKit
def KeepC (c:Nat) (W W':World):Prop:=∀ k,c ≤ k → k < c + 3 → W'.heap[k]? = W.heap[k]?
theorem KeepC.trans {c:Nat} {A B C:World} (h:KeepC c A B) (k:KeepC c B C):KeepC c A C:=fun i h1 h2=>(k i h1 h2).trans (h i h1 h2)
theorem KeepC.grown {c:Nat} {A B:World} {row:Option Nat} (hg:A.grownBy B row) (hc:c + 3 ≤ A.heap.size) (hr:∀ r,row = some r → r < c ∨ c + 3 ≤ r):KeepC c A B:=fun k h1 h2=>
 hg.block k (by omega) (fun e=>by rcases hr k e.symm with h | h <;> omega)
def SeqC {α:Type} (F:Fence) (n:Nat) (P:Program) (g:Nat) (lb:Array Value) (enc:α → Value) (c:Nat) (all:List α) (w:World):Prop:=
 ∀ (l:Nat) (J:List α → World → Prop) (W:World),Below w.heap.size w W →
  (∀ s A B,J s A → A.grownBy B (some c) → J s B) →
  (∀ pre x W1,J pre W1 → (pre ++ [x]) <+: all → YieldAt F (n - 1) P l #[enc x] W1 fun e W'=>e = .returned (.bool true) ∧ J (pre ++ [x]) W' ∧ KeepC c W1 W') →
  J [] W →
  CallsIn F n P g (#[.func (.yield l) #[] #[]] ++ lb) W fun e W'=>(∃ v,e = .returned v) ∧ J all W'
def postC {α:Type} (c:Nat) (I:List α → World → Prop) (xs:List α) (W:World):Exit → Act → World → Prop
 | .normal,_,W'=>KeepsOthers W W' ∧ KeepC c W W' ∧ I xs W'
 | _,_,_=>False
variable {F:Fence} {n:Nat} {P:Program}
theorem wpIn_seqC {α:Type} {g:Operand} {ps:Array Tmp} {assign body:Code} {Q:Exit → Act → World → Prop} {a:Act} {w:World}
  (hro:F.round = none) (h1:1 ≤ n) {gf:Nat} {lb:Array Value} (hg:a.eval g = .func (.func gf) #[] lb) (hFg:F.fn gf) (eg:∀ args w,(callFunc gf args).run P w = .ok (.enter gf args) w)
  {enc:α → Value} {c:Nat} {all:List α} {w0:World} (hseq:SeqC F (n - 1) P gf lb enc c all w0) (hc:c + 3 ≤ w.heap.size) (hb0:Below w0.heap.size w0 w) (hps:1 = ps.size)
  (I:List α → World → Prop) (hI:OwnFrom w.heap.size I) (hIc:∀ s A B,I s A → A.grownBy B (some c) → I s B) (h0:I [] w) (a₁:α → Act)
  (hassign:∀ (l:Nat) (x:α) (W:World) (K:Act → World → Prop),K (a₁ x) W →
   assign.wpIn (F.inRound l) (n - 1 - 1) P (Exit.then K (fun _ _ _=>False)) { tmps:=(ps.zip #[enc x]).foldl (fun t (p,v)=>t.setIfInBounds p v) a.tmps,defers:=[] } W)
  (hbody:∀ (l:Nat) (pre:List α) (x:α) (W:World),I pre W → (pre ++ [x]) <+: all → body.wpIn (F.inRound l) (n - 1 - 1) P (postC c I (pre ++ [x]) W) (a₁ x) W)
  (hdone:∀ (D:Nat) (W:World),w.heap.size ≤ D → I all W → W.heap[D]? = some (.deferred (some [])) → Q .normal { a with defers:={ target:=.collected D,args:=#[] } :: a.defers } W) :
  (Code.rangeFunc g ps assign body).wpIn F n P Q a w:=by
 refine wpIn_rangeFunc fun fn hfn=>?_
 rw [hro]
 -- the loop's record at D + 1,the block for deferred calls at D
 obtain ⟨D,hD⟩:∃ D,D = w.heap.size:=⟨_,rfl⟩
 obtain ⟨rec,hrec⟩:∃ rec:LoopState → Loop,rec = fun st=>{ state:=st,pending:=none,fn,tmps:=a.tmps,params:=ps,assign,body,defers:=w.heap.size }:=⟨_,rfl⟩
 have hI1:I [] ((w.alloc (.deferred (some []))).alloc (.loop (rec .ready))):=hI.alloc _ (hI.alloc _ h0)
 have hL1:((w.alloc (.deferred (some []))).alloc (.loop (rec .ready))).heap[D + 1]? = some (.loop (rec .ready)):=by
  have:=World.alloc_heap_new (w.alloc (.deferred (some []))) (.loop (rec .ready))
  rw [World.size_alloc] at this
  rw [hD]; exact this
 have hK1:((w.alloc (.deferred (some []))).alloc (.loop (rec .ready))).heap[D]? = some (.deferred (some [])):=by
  rw [hD]
  exact (Below.heap_alloc _ _ _ (by simp)).trans (World.alloc_heap_new w _)
 have hb1:Below w0.heap.size w0 ((w.alloc (.deferred (some []))).alloc (.loop (rec .ready))):=
  hb0.trans ((((Below.refl _ w).alloc (Nat.le_refl _) _).alloc (by simp) _).mono hb0.size)
 have hrun:(Instr.enterLoop fn a.tmps ps assign body none).run P w = .ok (D + 1,[{ target:=.collected D,args:=#[] }]) ((w.alloc (.deferred (some []))).alloc (.loop (rec .ready))):=by
  rw [hD,hrec]; exact run_enterLoop_outer _ _ _ _ _
 generalize (w.alloc (.deferred (some []))).alloc (.loop (rec .ready)) = W1 at hI1 hL1 hK1 hb1 hrun
 refine ⟨D + 1,[{ target:=.collected D,args:=#[] }],W1,{ target:=.fn (.func gf) lb,args:=#[.func (.yield (D + 1)) #[] #[]] },W1,gf,
  #[.func (.yield (D + 1)) #[] #[]] ++ lb,W1,hrun,?_,?_,?_,fun _=>h1,?_⟩
 ·simp only [resolve,hg]
  simp [go_sem]
 ·intro f' hf'; simp [Target.leads] at hf'; subst hf'; exact hFg
 ·simp [invoke,go_sem,eg]
 ·refine (hseq (D + 1)
   (fun pre W=>I pre W ∧ W.heap[D + 1]? = some (.loop (rec .ready)) ∧ W.heap[D]? = some (.deferred (some [])))
   W1 hb1 ?_ ?_ ⟨hI1,hL1,hK1⟩).mono ?_
  ·rintro s A B ⟨hi,hl,hk⟩ hg'
   have l1:=(Array.getElem?_eq_some_iff.1 hl).1
   exact ⟨hIc s A B hi hg',(hg'.block _ l1 (fun e=>by cases e; omega)).trans hl,(hg'.block _ (by omega) (fun e=>by cases e; omega)).trans hk⟩
  ·-- one round
   rintro pre x W ⟨hi,hl,hk⟩ hpre
   have hlt:D + 1 < W.heap.size:=(Array.getElem?_eq_some_iff.1 hl).1
   have hy:=run_yield (P:=P) (args:=#[enc x]) hl (by rw [hrec]; exact hps)
   have hst:(rec .ready).state = .ready:=by rw [hrec]
   have hy':(Instr.yield (D + 1) #[enc x]).run P W = .ok (.round (D + 1) fn ((ps.zip #[enc x]).foldl (fun t (p,v)=>t.setIfInBounds p v) a.tmps) assign body) W:=by
    rw [hrec] at hy; exact hy
   have hbusy:({ rec .ready with state:=.busy }:Loop) = rec .busy:=by rw [hrec]
   refine ⟨fn,_,assign,body,hy',roundIn_of_wpIn hfn (hassign _ x W _ ⟨_,run_beginRound hl hst,?_⟩)⟩
   rw [hbusy]
   have hg2:W.grownBy (W.putObj (D + 1) (.loop (rec .busy))) (some (D + 1)):=grownBy_putObj' W (D + 1) _
   have hl2:(W.putObj (D + 1) (.loop (rec .busy))).heap[D + 1]? = some (.loop (rec .busy)):=World.putObj_heap_same hlt
   have hk2:(W.putObj (D + 1) (.loop (rec .busy))).heap[D]? = some (.deferred (some [])):=(World.putObj_heap_other (by omega)).trans hk
   have hc2:KeepC c W (W.putObj (D + 1) (.loop (rec .busy))):=KeepC.grown hg2 (by omega) (fun r e=>by cases e; omega)
   have hi2:I pre (W.putObj (D + 1) (.loop (rec .busy))):=hI.putObj _ hi (by omega) hl rfl
   generalize W.putObj (D + 1) (.loop (rec .busy)) = W2 at hg2 hl2 hk2 hc2 hi2
   refine wpIn_mono (hbody _ pre x _ hi2 hpre) ?_
   rintro e a3 W3 hp
   cases e with
   | normal=>
    obtain ⟨hk3,hkc3,hi3⟩:=hp
    have hl3:=hk3.same _ _ hl2 rfl
    have hd3:=hk3.same _ _ hk2 rfl
    have hlt3:=(Array.getElem?_eq_some_iff.1 hl3).1
    have hr:=run_endRound (P:=P) none hl3
    have hready:({ rec .busy with state:=.ready,pending:=none }:Loop) = rec .ready:=by rw [hrec]
    simp only [Option.isNone_none,if_true] at hr
    rw [hready] at hr
    exact ⟨_,_,hr,rfl,⟨hI.putObj _ hi3 (by omega) hl3 rfl,World.putObj_heap_same hlt3,(World.putObj_heap_other (by omega)).trans hd3⟩,
     (hc2.trans hkc3).trans (KeepC.grown (grownBy_putObj' W3 (D + 1) _) (by omega) (fun r e=>by cases e; omega))⟩
   | _=>exact hp.elim
  ·rintro e W2 ⟨⟨v,rfl⟩,hi,hl,hk⟩
   have hne:(rec .ready).state ≠ .busy:=by rw [hrec]; simp
   refine ⟨none,_,?_,hdone D _ (by omega) (hI.putObj (.loop { rec .ready with state:=.exhausted }) hi (by omega) hl rfl) ((World.putObj_heap_other (by omega)).trans hk)⟩
   have:=run_endLoop (P:=P) hl hne
   rw [hrec] at this ⊢
   exact this
end
section
open Go.RowKit
structure KeepM (m:Nat) (X:Nat → Prop) (W W':World):Prop where
 os:W'.os = W.os
 tape:W'.tape = W.tape
 output:W'.output = W.output
 size:W.heap.size ≤ W'.heap.size
 block:∀ k,k < m → ¬ X k → W'.heap[k]? = W.heap[k]?
 others:KeepsOthers W W'
variable {m:Nat} {X:Nat → Prop} {A W W':World}
theorem KeepM.refl (m:Nat) (X:Nat → Prop) (W:World):KeepM m X W W:=⟨rfl,rfl,rfl,Nat.le_refl _,fun _ _ _=>rfl,KeepsOthers.refl _⟩
theorem KeepM.trans (h:KeepM m X A W) (k:KeepM m X W W'):KeepM m X A W':=
 ⟨k.os.trans h.os,k.tape.trans h.tape,k.output.trans h.output,Nat.le_trans h.size k.size,fun i hi hx=>(k.block i hi hx).trans (h.block i hi hx),h.others.trans k.others⟩
theorem KeepM.alloc (h:KeepM m X A W) (hm:m ≤ W.heap.size) (o:Obj):KeepM m X A (W.alloc o):=
 h.trans ⟨rfl,rfl,rfl,by simp,fun k hk _=>Below.heap_alloc W o k (by omega),KeepsOthers.alloc W o⟩
theorem KeepM.drew (h:KeepM m X A W):KeepM m X A W.drew:=h.trans ⟨rfl,rfl,rfl,Nat.le_refl _,fun _ _ _=>rfl,⟨Nat.le_refl _,fun _ _ h _=>h⟩⟩
theorem KeepM.put (h:KeepM m X A W) {B:Nat} (hB:X B) (v:Value):KeepM m X A (W.setCell ⟨B,0,none⟩ v):=
 h.trans ⟨rfl,rfl,rfl,(grownBy_setCell' W B v).size,fun k _ hx=>Below.heap_setCell W _ v k (fun e=>hx (by cases e; exact hB)),KeepsOthers.setCell _ _ _⟩
theorem KeepM.grown (h:KeepM m X A W) (hm:m ≤ W.heap.size) {v:Value} {e:TypeId} {size k:Nat} {xs:List Value} (hrow:W.ownsRow m e size v k xs) (hg:W.grownBy W' v.ownBlock):KeepM m X A W':=by
 refine h.trans ⟨hg.os,hg.tape,hg.output,hg.size,fun i hi _=>hg.block i (by omega) (fun ei=>?_),KeepsOthers.of_grownBy hg fun j o ej hj=>?_⟩
 ·rcases hrow.2 with ⟨rfl,_⟩ | ⟨g,cap,cur,rfl,hgb,_,_⟩
  ·simp [Value.ownBlock] at ei
  ·obtain rfl:i = g:=by simpa [Value.ownBlock] using ei
   omega
 ·rcases hrow.2 with ⟨rfl,_⟩ | ⟨g,cap,cur,rfl,_,hgb,_⟩
  ·simp [Value.ownBlock] at ej
  ·obtain rfl:g = j:=by simpa [Value.ownBlock] using ej
   rw [hgb] at hj; cases hj; rfl
theorem KeepM.box {B:Nat} {t:TypeId} {v:Value} (h:KeepM m X W W') (hv:Boxed W B t v) (h1:B < m) (h2:¬ X B):Boxed W' B t v:=(h.block B h1 h2).trans hv
theorem KeepM.below {n₀:Nat} (h:KeepM m X W W') (h1:n₀ ≤ m) (h2:∀ k,k < n₀ → ¬ X k):Below n₀ W W':=⟨h.os,h.tape,h.output,h.size,fun k hk=>h.block k (by omega) (h2 k hk)⟩
theorem KeepM.keepC {c:Nat} (h:KeepM m X W W') (h1:c + 3 ≤ m) (h2:∀ k,c ≤ k → k < c + 3 → ¬ X k):KeepC c W W':=fun k a b=>h.block k (by omega) (h2 k a b)
theorem KeepM.wide {X':Nat → Prop} (h:KeepM m X W W') (hx:∀ k,X k → X' k):KeepM m X' W W':=⟨h.os,h.tape,h.output,h.size,fun k hk hn=>h.block k hk (fun e=>hn (hx k e)),h.others⟩
theorem rowPut {W:World} {m B:Nat} {e:TypeId} {size k:Nat} {v x:Value} {xs:List Value} (hrow:W.ownsRow m e size v k xs) (hB:B < m):(W.setCell ⟨B,0,none⟩ x).ownsRow m e size v k xs:=by
 refine hrow.kept (grownBy_setCell' W B x) (.inr fun ei=>?_)
 rcases hrow.2 with ⟨rfl,_⟩ | ⟨g,cap,cur,rfl,hgb,_,_⟩
 ·simp [Value.ownBlock] at ei
 ·obtain rfl:g = B:=by simpa [Value.ownBlock] using ei
  omega
end
end Go.Proofs.YtaoobkgepcikiaaGreatDoor
/- The shelf contracts that these proofs use, laid at this translation. -/
namespace Go.Proofs
open Go.Shelf
def Tryz.lays156_ren : Go.Shelf.Ren := ⟨fun | 156 => 111 | 165 => 75 | 166 => 76 | 169 => 78 | 240 => 133 | 241 => 134 | 276 => 194 | 277 => 195 | n => n, fun | 31 => 31 | 9 => 9 | 3 => 3 | 4 => 4 | 0 => 0 | 20 => 20 | 72 => 136 | 76 => 85 | 70 => 133 | 37 => 134 | 75 => 84 | 127 => 179 | 164 => 223 | 5 => 5 | 80 => 139 | n => n, fun | n => n⟩
theorem Tryz.lays156 : Go.Proofs.Lays.n156 Tryz.prog Tryz.lays156_ren := {
  mixed := by kernel_rfl
  f156 := Tryz.func111.trans (congrArg some (by kernel_rfl))
  f165 := Tryz.func75.trans (congrArg some (by kernel_rfl))
  f166 := Tryz.func76.trans (congrArg some (by kernel_rfl))
  f169 := Tryz.func78.trans (congrArg some (by kernel_rfl))
  f240 := Tryz.func133.trans (congrArg some (by kernel_rfl))
  f241 := Tryz.func134.trans (congrArg some (by kernel_rfl))
  f276 := Tryz.func194.trans (congrArg some (by kernel_rfl))
  f277 := Tryz.func195.trans (congrArg some (by kernel_rfl))
  t0 := Tryz.underlying0
  a0 := Tryz.isAgg0
  z0 := Tryz.sizeOf0
  v0 := Tryz.zeroValue0
  t3 := Tryz.underlying3
  a3 := Tryz.isAgg3
  z3 := Tryz.sizeOf3
  v3 := Tryz.zeroValue3
  t4 := Tryz.underlying4
  a4 := Tryz.isAgg4
  z4 := Tryz.sizeOf4
  v4 := Tryz.zeroValue4
  t9 := Tryz.underlying9
  a9 := Tryz.isAgg9
  z9 := Tryz.sizeOf9
  v9 := Tryz.zeroValue9
  t20 := Tryz.underlying20
  a20 := Tryz.isAgg20
  z20 := Tryz.sizeOf20
  v20 := Tryz.zeroValue20
  t31 := Tryz.underlying31
  a31 := Tryz.isAgg31
  z31 := Tryz.sizeOf31
  v31 := Tryz.zeroValue31
  t37 := Tryz.underlying134
  a37 := Tryz.isAgg134
  z37 := Tryz.sizeOf134
  v37 := Tryz.zeroValue134
  t70 := Tryz.underlying133
  a70 := Tryz.isAgg133
  z70 := Tryz.sizeOf133
  v70 := Tryz.zeroValue133
  t72 := Tryz.underlying136
  a72 := Tryz.isAgg136
  z72 := Tryz.sizeOf136
  v72 := Tryz.zeroValue136
  t75 := Tryz.underlying84
  a75 := Tryz.isAgg84
  z75 := Tryz.sizeOf84
  v75 := Tryz.zeroValue84
  t76 := Tryz.underlying85
  a76 := Tryz.isAgg85
  z76 := Tryz.sizeOf85
  v76 := Tryz.zeroValue85
  t127 := Tryz.underlying179
  a127 := Tryz.isAgg179
  z127 := Tryz.sizeOf179
  v127 := Tryz.zeroValue179
  t164 := Tryz.underlying223
  a164 := Tryz.isAgg223
  z164 := Tryz.sizeOf223
  v164 := Tryz.zeroValue223 }
theorem Tryz.Builder_Extra_156 : Builder.Extra Tryz.prog Tryz.lays156_ren := {
  sizeBuilder := by kernel_rfl
  liesBuilder := by kernel_rfl
  t5 := Tryz.underlying5
  a5 := Tryz.isAgg5
  z5 := Tryz.sizeOf5
  v5 := Tryz.zeroValue5
  infoByte := by kernel_rfl
  cellsByte := by kernel_rfl
  sizeByte := by kernel_rfl
  neB5 := by decide }
def Tryz.lays161_ren : Go.Shelf.Ren := ⟨fun | 161 => 79 | 231 => 135 | 227 => 136 | 233 => 137 | 235 => 138 | 228 => 196 | 197 => 197 | 151 => 198 | 260 => 221 | 152 => 222 | 137 => 207 | 119 => 236 | 224 => 228 | 225 => 227 | 217 => 226 | 266 => 238 | n => n, fun | 9 => 9 | 4 => 4 | 3 => 3 | 5 => 5 | 117 => 183 | 116 => 182 | 0 => 0 | 124 => 186 | 105 => 226 | 21 => 21 | 119 => 208 | 46 => 129 | 139 => 274 | 138 => 273 | n => n, fun | 3 => 8 | 4 => 9 | n => n⟩
theorem Tryz.lays161 : Go.Proofs.Lays.n161 Tryz.prog Tryz.lays161_ren := {
  mixed := by kernel_rfl
  f119 := Tryz.func236.trans (congrArg some (by kernel_rfl))
  f137 := Tryz.func207.trans (congrArg some (by kernel_rfl))
  f151 := Tryz.func198.trans (congrArg some (by kernel_rfl))
  f152 := Tryz.func222.trans (congrArg some (by kernel_rfl))
  f161 := Tryz.func79.trans (congrArg some (by kernel_rfl))
  f197 := Tryz.func197.trans (congrArg some (by kernel_rfl))
  f217 := Tryz.func226.trans (congrArg some (by kernel_rfl))
  f224 := Tryz.func228.trans (congrArg some (by kernel_rfl))
  f225 := Tryz.func227.trans (congrArg some (by kernel_rfl))
  f227 := Tryz.func136.trans (congrArg some (by kernel_rfl))
  f228 := Tryz.func196.trans (congrArg some (by kernel_rfl))
  f231 := Tryz.func135.trans (congrArg some (by kernel_rfl))
  f233 := Tryz.func137.trans (congrArg some (by kernel_rfl))
  f235 := Tryz.func138.trans (congrArg some (by kernel_rfl))
  f260 := Tryz.func221.trans (congrArg some (by kernel_rfl))
  f266 := Tryz.func238.trans (congrArg some (by kernel_rfl))
  t0 := Tryz.underlying0
  a0 := Tryz.isAgg0
  z0 := Tryz.sizeOf0
  v0 := Tryz.zeroValue0
  t3 := Tryz.underlying3
  a3 := Tryz.isAgg3
  z3 := Tryz.sizeOf3
  v3 := Tryz.zeroValue3
  t4 := Tryz.underlying4
  a4 := Tryz.isAgg4
  z4 := Tryz.sizeOf4
  v4 := Tryz.zeroValue4
  t5 := Tryz.underlying5
  a5 := Tryz.isAgg5
  z5 := Tryz.sizeOf5
  v5 := Tryz.zeroValue5
  t9 := Tryz.underlying9
  a9 := Tryz.isAgg9
  z9 := Tryz.sizeOf9
  v9 := Tryz.zeroValue9
  t21 := Tryz.underlying21
  a21 := Tryz.isAgg21
  z21 := Tryz.sizeOf21
  v21 := Tryz.zeroValue21
  t46 := Tryz.underlying129
  a46 := Tryz.isAgg129
  z46 := Tryz.sizeOf129
  v46 := Tryz.zeroValue129
  t105 := Tryz.underlying226
  a105 := Tryz.isAgg226
  z105 := Tryz.sizeOf226
  v105 := Tryz.zeroValue226
  t116 := Tryz.underlying182
  a116 := Tryz.isAgg182
  z116 := Tryz.sizeOf182
  t117 := Tryz.underlying183
  a117 := Tryz.isAgg183
  z117 := Tryz.sizeOf183
  v117 := Tryz.zeroValue183
  t119 := Tryz.underlying208
  a119 := Tryz.isAgg208
  z119 := Tryz.sizeOf208
  t124 := Tryz.underlying186
  a124 := Tryz.isAgg186
  z124 := Tryz.sizeOf186
  v124 := Tryz.zeroValue186
  t138 := Tryz.underlying273
  a138 := Tryz.isAgg273
  z138 := Tryz.sizeOf273
  v138 := Tryz.zeroValue273
  t139 := Tryz.underlying274
  a139 := Tryz.isAgg274
  z139 := Tryz.sizeOf274
  v139 := Tryz.zeroValue274
  g3 := by kernel_rfl
  g4 := by kernel_rfl }
def Tryz.lays160_ren : Go.Shelf.Ren := ⟨fun | 160 => 144 | 232 => 202 | 231 => 135 | 227 => 136 | 234 => 203 | 233 => 137 | 236 => 204 | 235 => 138 | 228 => 196 | 271 => 225 | 151 => 198 | 197 => 197 | 120 => 237 | 152 => 222 | 260 => 221 | 137 => 207 | 119 => 236 | 224 => 228 | 225 => 227 | 217 => 226 | 266 => 238 | n => n, fun | 9 => 9 | 4 => 4 | 3 => 3 | 5 => 5 | 117 => 183 | 116 => 182 | 0 => 0 | 124 => 186 | 21 => 21 | 105 => 226 | 46 => 129 | 119 => 208 | 139 => 274 | 138 => 273 | n => n, fun | 3 => 8 | 4 => 9 | n => n⟩
theorem Tryz.lays160 : Go.Proofs.Lays.n160 Tryz.prog Tryz.lays160_ren := {
  mixed := by kernel_rfl
  f119 := Tryz.func236.trans (congrArg some (by kernel_rfl))
  f120 := Tryz.func237.trans (congrArg some (by kernel_rfl))
  f137 := Tryz.func207.trans (congrArg some (by kernel_rfl))
  f151 := Tryz.func198.trans (congrArg some (by kernel_rfl))
  f152 := Tryz.func222.trans (congrArg some (by kernel_rfl))
  f160 := Tryz.func144.trans (congrArg some (by kernel_rfl))
  f197 := Tryz.func197.trans (congrArg some (by kernel_rfl))
  f217 := Tryz.func226.trans (congrArg some (by kernel_rfl))
  f224 := Tryz.func228.trans (congrArg some (by kernel_rfl))
  f225 := Tryz.func227.trans (congrArg some (by kernel_rfl))
  f227 := Tryz.func136.trans (congrArg some (by kernel_rfl))
  f228 := Tryz.func196.trans (congrArg some (by kernel_rfl))
  f231 := Tryz.func135.trans (congrArg some (by kernel_rfl))
  f232 := Tryz.func202.trans (congrArg some (by kernel_rfl))
  f233 := Tryz.func137.trans (congrArg some (by kernel_rfl))
  f234 := Tryz.func203.trans (congrArg some (by kernel_rfl))
  f235 := Tryz.func138.trans (congrArg some (by kernel_rfl))
  f236 := Tryz.func204.trans (congrArg some (by kernel_rfl))
  f260 := Tryz.func221.trans (congrArg some (by kernel_rfl))
  f266 := Tryz.func238.trans (congrArg some (by kernel_rfl))
  f271 := Tryz.func225.trans (congrArg some (by kernel_rfl))
  t0 := Tryz.underlying0
  a0 := Tryz.isAgg0
  z0 := Tryz.sizeOf0
  v0 := Tryz.zeroValue0
  t3 := Tryz.underlying3
  a3 := Tryz.isAgg3
  z3 := Tryz.sizeOf3
  v3 := Tryz.zeroValue3
  t4 := Tryz.underlying4
  a4 := Tryz.isAgg4
  z4 := Tryz.sizeOf4
  v4 := Tryz.zeroValue4
  t5 := Tryz.underlying5
  a5 := Tryz.isAgg5
  z5 := Tryz.sizeOf5
  v5 := Tryz.zeroValue5
  t9 := Tryz.underlying9
  a9 := Tryz.isAgg9
  z9 := Tryz.sizeOf9
  v9 := Tryz.zeroValue9
  t21 := Tryz.underlying21
  a21 := Tryz.isAgg21
  z21 := Tryz.sizeOf21
  v21 := Tryz.zeroValue21
  t46 := Tryz.underlying129
  a46 := Tryz.isAgg129
  z46 := Tryz.sizeOf129
  v46 := Tryz.zeroValue129
  t105 := Tryz.underlying226
  a105 := Tryz.isAgg226
  z105 := Tryz.sizeOf226
  v105 := Tryz.zeroValue226
  t116 := Tryz.underlying182
  a116 := Tryz.isAgg182
  z116 := Tryz.sizeOf182
  t117 := Tryz.underlying183
  a117 := Tryz.isAgg183
  z117 := Tryz.sizeOf183
  v117 := Tryz.zeroValue183
  t119 := Tryz.underlying208
  a119 := Tryz.isAgg208
  z119 := Tryz.sizeOf208
  t124 := Tryz.underlying186
  a124 := Tryz.isAgg186
  z124 := Tryz.sizeOf186
  v124 := Tryz.zeroValue186
  t138 := Tryz.underlying273
  a138 := Tryz.isAgg273
  z138 := Tryz.sizeOf273
  v138 := Tryz.zeroValue273
  t139 := Tryz.underlying274
  a139 := Tryz.isAgg274
  z139 := Tryz.sizeOf274
  v139 := Tryz.zeroValue274
  g3 := by kernel_rfl
  g4 := by kernel_rfl }
def Tryz.lays125_ren : Go.Shelf.Ren := ⟨fun | 125 => 110 | 128 => 167 | 129 => 168 | n => n, fun | 46 => 129 | 3 => 3 | 51 => 174 | 53 => 169 | 4 => 4 | 5 => 5 | 9 => 9 | n => n, fun | n => n⟩
theorem Tryz.lays125 : Go.Proofs.Lays.n125 Tryz.prog Tryz.lays125_ren := {
  mixed := by kernel_rfl
  f125 := Tryz.func110.trans (congrArg some (by kernel_rfl))
  f128 := Tryz.func167.trans (congrArg some (by kernel_rfl))
  f129 := Tryz.func168.trans (congrArg some (by kernel_rfl))
  t3 := Tryz.underlying3
  a3 := Tryz.isAgg3
  z3 := Tryz.sizeOf3
  v3 := Tryz.zeroValue3
  t4 := Tryz.underlying4
  a4 := Tryz.isAgg4
  z4 := Tryz.sizeOf4
  v4 := Tryz.zeroValue4
  t5 := Tryz.underlying5
  a5 := Tryz.isAgg5
  z5 := Tryz.sizeOf5
  v5 := Tryz.zeroValue5
  t9 := Tryz.underlying9
  a9 := Tryz.isAgg9
  z9 := Tryz.sizeOf9
  v9 := Tryz.zeroValue9
  t46 := Tryz.underlying129
  a46 := Tryz.isAgg129
  z46 := Tryz.sizeOf129
  v46 := Tryz.zeroValue129
  t51 := Tryz.underlying174
  a51 := Tryz.isAgg174
  z51 := Tryz.sizeOf174
  v51 := Tryz.zeroValue174
  t53 := Tryz.underlying169
  a53 := Tryz.isAgg169
  z53 := Tryz.sizeOf169
  v53 := Tryz.zeroValue169 }
theorem Tryz.bits_Len (x : Int) (w : World) (h0 : 0 ≤ x) (h1 : x ≤ 18446744073709551615) :
    Calls Tryz.prog 110 #[.int .u64 x] w fun e w' => e = .returned (.int .i64 (Lib.bitLen x.toNat)) ∧ w' = w := Any.bits_Len Tryz.lays125 x w h0 h1
def Tryz.lays106_ren : Go.Shelf.Ren := ⟨fun | 106 => 86 | 213 => 147 | 265 => 205 | n => n, fun | 9 => 9 | 3 => 3 | n => n, fun | n => n⟩
theorem Tryz.lays106 : Go.Proofs.Lays.n106 Tryz.prog Tryz.lays106_ren := {
  mixed := by kernel_rfl
  f106 := Tryz.func86.trans (congrArg some (by kernel_rfl))
  f213 := Tryz.func147.trans (congrArg some (by kernel_rfl))
  f265 := Tryz.func205.trans (congrArg some (by kernel_rfl))
  t3 := Tryz.underlying3
  a3 := Tryz.isAgg3
  z3 := Tryz.sizeOf3
  v3 := Tryz.zeroValue3
  t9 := Tryz.underlying9
  a9 := Tryz.isAgg9
  z9 := Tryz.sizeOf9
  v9 := Tryz.zeroValue9 }
open Go.RowKit in
theorem Tryz.strings_Compare (a b : ByteArray) (w : World) :
    Calls Tryz.prog 86 #[.string a, .string b] w fun e w' => e = .returned (.int .i64 (Lib.compareBytes a.data.toList b.data.toList)) ∧ w' = w := Any.strings_Compare Tryz.lays106 a b w
def Tryz.lays137_ren : Go.Shelf.Ren := ⟨fun | 137 => 207 | 217 => 226 | 266 => 238 | n => n, fun | 9 => 9 | 5 => 5 | 3 => 3 | n => n, fun | n => n⟩
theorem Tryz.lays137 : Go.Proofs.Lays.n137 Tryz.prog Tryz.lays137_ren := {
  mixed := by kernel_rfl
  f137 := Tryz.func207.trans (congrArg some (by kernel_rfl))
  f217 := Tryz.func226.trans (congrArg some (by kernel_rfl))
  f266 := Tryz.func238.trans (congrArg some (by kernel_rfl))
  t3 := Tryz.underlying3
  a3 := Tryz.isAgg3
  z3 := Tryz.sizeOf3
  v3 := Tryz.zeroValue3
  t5 := Tryz.underlying5
  a5 := Tryz.isAgg5
  z5 := Tryz.sizeOf5
  v5 := Tryz.zeroValue5
  t9 := Tryz.underlying9
  a9 := Tryz.isAgg9
  z9 := Tryz.sizeOf9
  v9 := Tryz.zeroValue9 }
open Go.RowKit in
theorem Tryz.strings_IndexByte (s : ByteArray) (c : Int) (w : World) :
    Calls Tryz.prog 207 #[.string s, .int .u8 c] w fun e w' => e = .returned (.int .i64 (Lib.indexByte s.data.toList c.toNat.toUInt8)) ∧ w' = w := Any.strings_IndexByte Tryz.lays137 s c w
def Tryz.lays122_ren : Go.Shelf.Ren := ⟨fun | 122 => 85 | 215 => 146 | n => n, fun | 3 => 3 | 4 => 4 | n => n, fun | n => n⟩
theorem Tryz.lays122 : Go.Proofs.Lays.n122 Tryz.prog Tryz.lays122_ren := {
  mixed := by kernel_rfl
  f122 := Tryz.func85.trans (congrArg some (by kernel_rfl))
  f215 := Tryz.func146.trans (congrArg some (by kernel_rfl))
  t3 := Tryz.underlying3
  a3 := Tryz.isAgg3
  z3 := Tryz.sizeOf3
  v3 := Tryz.zeroValue3
  t4 := Tryz.underlying4
  a4 := Tryz.isAgg4
  z4 := Tryz.sizeOf4
  v4 := Tryz.zeroValue4 }
open Go.RowKit in
theorem Tryz.cmp_Compare_int (x y : Int) (w : World) :
    Calls Tryz.prog 85 #[.int .i64 x, .int .i64 y] w fun e w' => e = .returned (.int .i64 (Lib.compareInt x y)) ∧ w' = w := Any.cmp_Compare_int Tryz.lays122 x y w
def Tryz.laysM171_ren : Go.Shelf.Ren := ⟨fun | 171 => 14 | 243 => 33 | 246 => 72 | 283 => 126 | 284 => 127 | 285 => 128 | 286 => 129 | 129 => 168 | 317 => 190 | 318 => 191 | 319 => 192 | 320 => 193 | 337 => 219 | 338 => 220 | n => n, fun | 3 => 3 | 9 => 9 | 2 => 2 | 4 => 4 | 171 => 168 | 0 => 0 | 53 => 169 | 37 => 134 | 5 => 5 | 173 => 172 | 212 => 221 | 51 => 174 | 20 => 20 | 213 => 222 | 46 => 129 | 232 => 270 | 233 => 271 | n => n, fun | 17 => 1 | 18 => 6 | 19 => 7 | n => n⟩
theorem Tryz.laysM171 : Go.Proofs.LaysM.n171 Tryz.prog Tryz.laysM171_ren := {
  mixed := by kernel_rfl
  f129 := Tryz.func168.trans (congrArg some (by kernel_rfl))
  f171 := Tryz.func14.trans (congrArg some (by kernel_rfl))
  f243 := Tryz.func33.trans (congrArg some (by kernel_rfl))
  f246 := Tryz.func72.trans (congrArg some (by kernel_rfl))
  f283 := Tryz.func126.trans (congrArg some (by kernel_rfl))
  f284 := Tryz.func127.trans (congrArg some (by kernel_rfl))
  f285 := Tryz.func128.trans (congrArg some (by kernel_rfl))
  f286 := Tryz.func129.trans (congrArg some (by kernel_rfl))
  f317 := Tryz.func190.trans (congrArg some (by kernel_rfl))
  f318 := Tryz.func191.trans (congrArg some (by kernel_rfl))
  f319 := Tryz.func192.trans (congrArg some (by kernel_rfl))
  f320 := Tryz.func193.trans (congrArg some (by kernel_rfl))
  f337 := Tryz.func219.trans (congrArg some (by kernel_rfl))
  f338 := Tryz.func220.trans (congrArg some (by kernel_rfl))
  t0 := Tryz.underlying0
  a0 := Tryz.isAgg0
  z0 := Tryz.sizeOf0
  v0 := Tryz.zeroValue0
  t2 := Tryz.underlying2
  a2 := Tryz.isAgg2
  z2 := Tryz.sizeOf2
  v2 := Tryz.zeroValue2
  t3 := Tryz.underlying3
  a3 := Tryz.isAgg3
  z3 := Tryz.sizeOf3
  v3 := Tryz.zeroValue3
  t4 := Tryz.underlying4
  a4 := Tryz.isAgg4
  z4 := Tryz.sizeOf4
  v4 := Tryz.zeroValue4
  t5 := Tryz.underlying5
  a5 := Tryz.isAgg5
  z5 := Tryz.sizeOf5
  v5 := Tryz.zeroValue5
  t9 := Tryz.underlying9
  a9 := Tryz.isAgg9
  z9 := Tryz.sizeOf9
  v9 := Tryz.zeroValue9
  t20 := Tryz.underlying20
  a20 := Tryz.isAgg20
  z20 := Tryz.sizeOf20
  v20 := Tryz.zeroValue20
  t37 := Tryz.underlying134
  a37 := Tryz.isAgg134
  z37 := Tryz.sizeOf134
  v37 := Tryz.zeroValue134
  t46 := Tryz.underlying129
  a46 := Tryz.isAgg129
  z46 := Tryz.sizeOf129
  v46 := Tryz.zeroValue129
  t51 := Tryz.underlying174
  a51 := Tryz.isAgg174
  z51 := Tryz.sizeOf174
  v51 := Tryz.zeroValue174
  t53 := Tryz.underlying169
  a53 := Tryz.isAgg169
  z53 := Tryz.sizeOf169
  v53 := Tryz.zeroValue169
  t171 := Tryz.underlying168
  a171 := Tryz.isAgg168
  z171 := Tryz.sizeOf168
  v171 := Tryz.zeroValue168
  t173 := Tryz.underlying172
  a173 := Tryz.isAgg172
  z173 := Tryz.sizeOf172
  v173 := Tryz.zeroValue172
  t212 := Tryz.underlying221
  a212 := Tryz.isAgg221
  z212 := Tryz.sizeOf221
  v212 := Tryz.zeroValue221
  t213 := Tryz.underlying222
  a213 := Tryz.isAgg222
  z213 := Tryz.sizeOf222
  t232 := Tryz.underlying270
  a232 := Tryz.isAgg270
  z232 := Tryz.sizeOf270
  v232 := Tryz.zeroValue270
  t233 := Tryz.underlying271
  a233 := Tryz.isAgg271
  z233 := Tryz.sizeOf271
  v233 := Tryz.zeroValue271
  g17 := by kernel_rfl
  g18 := by kernel_rfl
  g19 := by kernel_rfl
  i0 := by kernel_rfl
  i2 := by kernel_rfl
  i3 := by kernel_rfl
  i4 := by kernel_rfl
  i5 := by kernel_rfl
  i9 := by kernel_rfl
  i20 := by kernel_rfl
  i37 := by kernel_rfl
  i46 := by kernel_rfl
  i51 := by kernel_rfl
  i53 := by kernel_rfl
  i171 := by kernel_rfl
  i173 := by kernel_rfl
  i212 := by kernel_rfl
  i232 := by kernel_rfl
  i233 := by kernel_rfl
  m17 := by kernel_rfl
  m18 := by kernel_rfl
  m19 := by kernel_rfl }
def Tryz.lays171_ren : Go.Shelf.Ren := ⟨fun | 171 => 14 | 243 => 33 | 246 => 72 | 283 => 126 | 284 => 127 | 285 => 128 | 286 => 129 | 129 => 168 | 317 => 190 | 318 => 191 | 319 => 192 | 320 => 193 | 337 => 219 | 338 => 220 | n => n, fun | 3 => 3 | 9 => 9 | 2 => 2 | 4 => 4 | 171 => 168 | 0 => 0 | 53 => 169 | 37 => 134 | 5 => 5 | 173 => 172 | 212 => 221 | 51 => 174 | 20 => 20 | 213 => 222 | 46 => 129 | 232 => 270 | 233 => 271 | n => n, fun | 17 => 1 | 18 => 6 | 19 => 7 | n => n⟩
theorem Tryz.lays171 : Go.Proofs.Lays.n171 Tryz.prog Tryz.lays171_ren := {
  mixed := by kernel_rfl
  f129 := Tryz.func168.trans (congrArg some (by kernel_rfl))
  f171 := Tryz.func14.trans (congrArg some (by kernel_rfl))
  f243 := Tryz.func33.trans (congrArg some (by kernel_rfl))
  f246 := Tryz.func72.trans (congrArg some (by kernel_rfl))
  f283 := Tryz.func126.trans (congrArg some (by kernel_rfl))
  f284 := Tryz.func127.trans (congrArg some (by kernel_rfl))
  f285 := Tryz.func128.trans (congrArg some (by kernel_rfl))
  f286 := Tryz.func129.trans (congrArg some (by kernel_rfl))
  f317 := Tryz.func190.trans (congrArg some (by kernel_rfl))
  f318 := Tryz.func191.trans (congrArg some (by kernel_rfl))
  f319 := Tryz.func192.trans (congrArg some (by kernel_rfl))
  f320 := Tryz.func193.trans (congrArg some (by kernel_rfl))
  f337 := Tryz.func219.trans (congrArg some (by kernel_rfl))
  f338 := Tryz.func220.trans (congrArg some (by kernel_rfl))
  t0 := Tryz.underlying0
  a0 := Tryz.isAgg0
  z0 := Tryz.sizeOf0
  v0 := Tryz.zeroValue0
  t2 := Tryz.underlying2
  a2 := Tryz.isAgg2
  z2 := Tryz.sizeOf2
  v2 := Tryz.zeroValue2
  t3 := Tryz.underlying3
  a3 := Tryz.isAgg3
  z3 := Tryz.sizeOf3
  v3 := Tryz.zeroValue3
  t4 := Tryz.underlying4
  a4 := Tryz.isAgg4
  z4 := Tryz.sizeOf4
  v4 := Tryz.zeroValue4
  t5 := Tryz.underlying5
  a5 := Tryz.isAgg5
  z5 := Tryz.sizeOf5
  v5 := Tryz.zeroValue5
  t9 := Tryz.underlying9
  a9 := Tryz.isAgg9
  z9 := Tryz.sizeOf9
  v9 := Tryz.zeroValue9
  t20 := Tryz.underlying20
  a20 := Tryz.isAgg20
  z20 := Tryz.sizeOf20
  v20 := Tryz.zeroValue20
  t37 := Tryz.underlying134
  a37 := Tryz.isAgg134
  z37 := Tryz.sizeOf134
  v37 := Tryz.zeroValue134
  t46 := Tryz.underlying129
  a46 := Tryz.isAgg129
  z46 := Tryz.sizeOf129
  v46 := Tryz.zeroValue129
  t51 := Tryz.underlying174
  a51 := Tryz.isAgg174
  z51 := Tryz.sizeOf174
  v51 := Tryz.zeroValue174
  t53 := Tryz.underlying169
  a53 := Tryz.isAgg169
  z53 := Tryz.sizeOf169
  v53 := Tryz.zeroValue169
  t171 := Tryz.underlying168
  a171 := Tryz.isAgg168
  z171 := Tryz.sizeOf168
  v171 := Tryz.zeroValue168
  t173 := Tryz.underlying172
  a173 := Tryz.isAgg172
  z173 := Tryz.sizeOf172
  v173 := Tryz.zeroValue172
  t212 := Tryz.underlying221
  a212 := Tryz.isAgg221
  z212 := Tryz.sizeOf221
  v212 := Tryz.zeroValue221
  t213 := Tryz.underlying222
  a213 := Tryz.isAgg222
  z213 := Tryz.sizeOf222
  t232 := Tryz.underlying270
  a232 := Tryz.isAgg270
  z232 := Tryz.sizeOf270
  v232 := Tryz.zeroValue270
  t233 := Tryz.underlying271
  a233 := Tryz.isAgg271
  z233 := Tryz.sizeOf271
  v233 := Tryz.zeroValue271
  g17 := by kernel_rfl
  g18 := by kernel_rfl
  g19 := by kernel_rfl }
open Go.RowKit Go.Sort Go.Lib in
theorem Tryz.strconv_Itoa_small (i : Nat) (hi : i < 100) (w : World) :
    Calls Tryz.prog 14 #[.int .i64 i] w fun e w' => e = .returned (.string ⟨(Lib.decDigits i).toArray⟩) ∧ w' = w := Any.strconv_Itoa_small Tryz.lays171 i hi w
def Tryz.laysC172_ren : Go.Shelf.Ren := ⟨fun | 172 => 40 | 244 => 80 | 245 => 81 | 247 => 139 | 279 => 140 | 280 => 141 | 281 => 142 | 282 => 143 | 287 => 199 | 316 => 200 | 171 => 14 | 205 => 201 | 321 => 223 | 322 => 224 | 243 => 33 | 246 => 72 | 283 => 126 | 284 => 127 | 285 => 128 | 286 => 129 | 129 => 168 | 317 => 190 | 318 => 191 | 319 => 192 | 320 => 193 | 337 => 219 | 338 => 220 | n => n, fun | 9 => 9 | 3 => 3 | 75 => 84 | 76 => 85 | 4 => 4 | 5 => 5 | 167 => 187 | 37 => 134 | 0 => 0 | 85 => 188 | 2 => 2 | 168 => 190 | 53 => 169 | 175 => 229 | 46 => 129 | 210 => 233 | 127 => 179 | 145 => 254 | 143 => 252 | 21 => 21 | 171 => 168 | 173 => 172 | 212 => 221 | 51 => 174 | 20 => 20 | 213 => 222 | 232 => 270 | 233 => 271 | 80 => 139 | n => n, fun | 15 => 2 | 16 => 3 | 17 => 1 | 18 => 6 | 19 => 7 | n => n⟩
theorem Tryz.laysC172 : Go.Proofs.LaysC.n172 Tryz.prog Tryz.laysC172_ren := {
  mixed := by kernel_rfl
  f129 := Tryz.func168.trans (congrArg some (by kernel_rfl))
  f171 := Tryz.func14.trans (congrArg some (by kernel_rfl))
  f172 := Tryz.func40.trans (congrArg some (by kernel_rfl))
  f205 := Tryz.func201.trans (congrArg some (by kernel_rfl))
  f243 := Tryz.func33.trans (congrArg some (by kernel_rfl))
  f244 := Tryz.func80.trans (congrArg some (by kernel_rfl))
  f245 := Tryz.func81.trans (congrArg some (by kernel_rfl))
  f246 := Tryz.func72.trans (congrArg some (by kernel_rfl))
  f247 := Tryz.func139.trans (congrArg some (by kernel_rfl))
  f279 := Tryz.func140.trans (congrArg some (by kernel_rfl))
  f280 := Tryz.func141.trans (congrArg some (by kernel_rfl))
  f281 := Tryz.func142.trans (congrArg some (by kernel_rfl))
  f282 := Tryz.func143.trans (congrArg some (by kernel_rfl))
  f283 := Tryz.func126.trans (congrArg some (by kernel_rfl))
  f284 := Tryz.func127.trans (congrArg some (by kernel_rfl))
  f285 := Tryz.func128.trans (congrArg some (by kernel_rfl))
  f286 := Tryz.func129.trans (congrArg some (by kernel_rfl))
  f287 := Tryz.func199.trans (congrArg some (by kernel_rfl))
  f316 := Tryz.func200.trans (congrArg some (by kernel_rfl))
  f317 := Tryz.func190.trans (congrArg some (by kernel_rfl))
  f318 := Tryz.func191.trans (congrArg some (by kernel_rfl))
  f319 := Tryz.func192.trans (congrArg some (by kernel_rfl))
  f320 := Tryz.func193.trans (congrArg some (by kernel_rfl))
  f321 := Tryz.func223.trans (congrArg some (by kernel_rfl))
  f322 := Tryz.func224.trans (congrArg some (by kernel_rfl))
  f337 := Tryz.func219.trans (congrArg some (by kernel_rfl))
  f338 := Tryz.func220.trans (congrArg some (by kernel_rfl))
  t0 := Tryz.underlying0
  a0 := Tryz.isAgg0
  z0 := Tryz.sizeOf0
  v0 := Tryz.zeroValue0
  t2 := Tryz.underlying2
  a2 := Tryz.isAgg2
  z2 := Tryz.sizeOf2
  v2 := Tryz.zeroValue2
  t3 := Tryz.underlying3
  a3 := Tryz.isAgg3
  z3 := Tryz.sizeOf3
  v3 := Tryz.zeroValue3
  t4 := Tryz.underlying4
  a4 := Tryz.isAgg4
  z4 := Tryz.sizeOf4
  v4 := Tryz.zeroValue4
  t5 := Tryz.underlying5
  a5 := Tryz.isAgg5
  z5 := Tryz.sizeOf5
  v5 := Tryz.zeroValue5
  t9 := Tryz.underlying9
  a9 := Tryz.isAgg9
  z9 := Tryz.sizeOf9
  v9 := Tryz.zeroValue9
  t20 := Tryz.underlying20
  a20 := Tryz.isAgg20
  z20 := Tryz.sizeOf20
  v20 := Tryz.zeroValue20
  t21 := Tryz.underlying21
  a21 := Tryz.isAgg21
  z21 := Tryz.sizeOf21
  v21 := Tryz.zeroValue21
  t37 := Tryz.underlying134
  a37 := Tryz.isAgg134
  z37 := Tryz.sizeOf134
  v37 := Tryz.zeroValue134
  t46 := Tryz.underlying129
  a46 := Tryz.isAgg129
  z46 := Tryz.sizeOf129
  v46 := Tryz.zeroValue129
  t51 := Tryz.underlying174
  a51 := Tryz.isAgg174
  z51 := Tryz.sizeOf174
  v51 := Tryz.zeroValue174
  t53 := Tryz.underlying169
  a53 := Tryz.isAgg169
  z53 := Tryz.sizeOf169
  v53 := Tryz.zeroValue169
  t75 := Tryz.underlying84
  a75 := Tryz.isAgg84
  z75 := Tryz.sizeOf84
  v75 := Tryz.zeroValue84
  t76 := Tryz.underlying85
  a76 := Tryz.isAgg85
  z76 := Tryz.sizeOf85
  v76 := Tryz.zeroValue85
  t85 := Tryz.underlying188
  a85 := Tryz.isAgg188
  z85 := Tryz.sizeOf188
  v85 := Tryz.zeroValue188
  t127 := Tryz.underlying179
  a127 := Tryz.isAgg179
  z127 := Tryz.sizeOf179
  v127 := Tryz.zeroValue179
  t143 := Tryz.underlying252
  a143 := Tryz.isAgg252
  z143 := Tryz.sizeOf252
  v143 := Tryz.zeroValue252
  t145 := Tryz.underlying254
  a145 := Tryz.isAgg254
  z145 := Tryz.sizeOf254
  v145 := Tryz.zeroValue254
  t167 := Tryz.underlying187
  a167 := Tryz.isAgg187
  z167 := Tryz.sizeOf187
  v167 := Tryz.zeroValue187
  t168 := Tryz.underlying190
  a168 := Tryz.isAgg190
  z168 := Tryz.sizeOf190
  v168 := Tryz.zeroValue190
  t171 := Tryz.underlying168
  a171 := Tryz.isAgg168
  z171 := Tryz.sizeOf168
  v171 := Tryz.zeroValue168
  t173 := Tryz.underlying172
  a173 := Tryz.isAgg172
  z173 := Tryz.sizeOf172
  v173 := Tryz.zeroValue172
  t175 := Tryz.underlying229
  a175 := Tryz.isAgg229
  z175 := Tryz.sizeOf229
  v175 := Tryz.zeroValue229
  t210 := Tryz.underlying233
  a210 := Tryz.isAgg233
  z210 := Tryz.sizeOf233
  v210 := Tryz.zeroValue233
  t212 := Tryz.underlying221
  a212 := Tryz.isAgg221
  z212 := Tryz.sizeOf221
  v212 := Tryz.zeroValue221
  t213 := Tryz.underlying222
  a213 := Tryz.isAgg222
  z213 := Tryz.sizeOf222
  t232 := Tryz.underlying270
  a232 := Tryz.isAgg270
  z232 := Tryz.sizeOf270
  v232 := Tryz.zeroValue270
  t233 := Tryz.underlying271
  a233 := Tryz.isAgg271
  z233 := Tryz.sizeOf271
  v233 := Tryz.zeroValue271
  g15 := by kernel_rfl
  g16 := by kernel_rfl
  g17 := by kernel_rfl
  g18 := by kernel_rfl
  g19 := by kernel_rfl
  t80 := Tryz.underlying139
  a80 := Tryz.isAgg139
  z80 := Tryz.sizeOf139
  v80 := Tryz.zeroValue139
  i0 := by kernel_rfl
  i2 := by kernel_rfl
  i3 := by kernel_rfl
  i4 := by kernel_rfl
  i5 := by kernel_rfl
  i9 := by kernel_rfl
  i20 := by kernel_rfl
  i21 := by kernel_rfl
  i37 := by kernel_rfl
  i46 := by kernel_rfl
  i51 := by kernel_rfl
  i53 := by kernel_rfl
  i75 := by kernel_rfl
  i76 := by kernel_rfl
  i80 := by kernel_rfl
  i85 := by kernel_rfl
  i127 := by kernel_rfl
  i143 := by kernel_rfl
  i145 := by kernel_rfl
  i167 := by kernel_rfl
  i168 := by kernel_rfl
  i171 := by kernel_rfl
  i173 := by kernel_rfl
  i175 := by kernel_rfl
  i210 := by kernel_rfl
  i212 := by kernel_rfl
  i232 := by kernel_rfl
  i233 := by kernel_rfl
  m15 := by kernel_rfl
  m16 := by kernel_rfl
  m17 := by kernel_rfl
  m18 := by kernel_rfl
  m19 := by kernel_rfl
  c0 := by kernel_rfl
  c2 := by kernel_rfl
  c3 := by kernel_rfl
  c4 := by kernel_rfl
  c5 := by kernel_rfl
  c9 := by kernel_rfl
  c20 := by kernel_rfl
  c21 := by kernel_rfl
  c37 := by kernel_rfl
  c46 := by kernel_rfl
  c51 := by kernel_rfl
  c53 := by kernel_rfl
  c75 := by kernel_rfl
  c76 := by kernel_rfl
  c80 := by kernel_rfl
  c85 := by kernel_rfl
  c127 := by kernel_rfl
  c143 := by kernel_rfl
  c145 := by kernel_rfl
  c167 := by kernel_rfl
  c168 := by kernel_rfl
  c171 := by kernel_rfl
  c173 := by kernel_rfl
  c175 := by kernel_rfl
  c210 := by kernel_rfl
  c212 := by kernel_rfl
  c213 := by kernel_rfl
  c232 := by kernel_rfl
  c233 := by kernel_rfl }
def Tryz.lays143_ren : Go.Shelf.Ren := ⟨fun | 143 => 148 | 219 => 206 | 217 => 226 | 225 => 227 | 224 => 228 | 267 => 229 | 266 => 238 | 314 => 239 | n => n, fun | 9 => 9 | 3 => 3 | 4 => 4 | 5 => 5 | 46 => 129 | 146 => 175 | 51 => 174 | n => n, fun | 1 => 4 | n => n⟩
theorem Tryz.lays143 : Go.Proofs.Lays.n143 Tryz.prog Tryz.lays143_ren := {
  mixed := by kernel_rfl
  f143 := Tryz.func148.trans (congrArg some (by kernel_rfl))
  f217 := Tryz.func226.trans (congrArg some (by kernel_rfl))
  f219 := Tryz.func206.trans (congrArg some (by kernel_rfl))
  f224 := Tryz.func228.trans (congrArg some (by kernel_rfl))
  f225 := Tryz.func227.trans (congrArg some (by kernel_rfl))
  f266 := Tryz.func238.trans (congrArg some (by kernel_rfl))
  f267 := Tryz.func229.trans (congrArg some (by kernel_rfl))
  f314 := Tryz.func239.trans (congrArg some (by kernel_rfl))
  t3 := Tryz.underlying3
  a3 := Tryz.isAgg3
  z3 := Tryz.sizeOf3
  v3 := Tryz.zeroValue3
  t4 := Tryz.underlying4
  a4 := Tryz.isAgg4
  z4 := Tryz.sizeOf4
  v4 := Tryz.zeroValue4
  t5 := Tryz.underlying5
  a5 := Tryz.isAgg5
  z5 := Tryz.sizeOf5
  v5 := Tryz.zeroValue5
  t9 := Tryz.underlying9
  a9 := Tryz.isAgg9
  z9 := Tryz.sizeOf9
  v9 := Tryz.zeroValue9
  t46 := Tryz.underlying129
  a46 := Tryz.isAgg129
  z46 := Tryz.sizeOf129
  v46 := Tryz.zeroValue129
  t51 := Tryz.underlying174
  a51 := Tryz.isAgg174
  z51 := Tryz.sizeOf174
  v51 := Tryz.zeroValue174
  t146 := Tryz.underlying175
  a146 := Tryz.isAgg175
  z146 := Tryz.sizeOf175
  v146 := Tryz.zeroValue175
  g1 := by kernel_rfl }
open Go.RowKit Go.Lib in
theorem Tryz.strings_Index_one (s : ByteArray) (c : UInt8) (w : World) :
    Calls Tryz.prog 148 #[.string s, .string ⟨#[c]⟩] w fun e w' => e = .returned (.int .i64 (Lib.indexByte s.data.toList c)) ∧ w' = w := Any.strings_Index_one Tryz.lays143 s c w
def Tryz.lays144_ren : Go.Shelf.Ren := ⟨fun | 144 => 87 | 143 => 148 | 219 => 206 | 217 => 226 | 225 => 227 | 224 => 228 | 267 => 229 | 266 => 238 | 314 => 239 | n => n, fun | 9 => 9 | 4 => 4 | 3 => 3 | 5 => 5 | 46 => 129 | 146 => 175 | 51 => 174 | n => n, fun | 1 => 4 | n => n⟩
theorem Tryz.lays144 : Go.Proofs.Lays.n144 Tryz.prog Tryz.lays144_ren := {
  mixed := by kernel_rfl
  f143 := Tryz.func148.trans (congrArg some (by kernel_rfl))
  f144 := Tryz.func87.trans (congrArg some (by kernel_rfl))
  f217 := Tryz.func226.trans (congrArg some (by kernel_rfl))
  f219 := Tryz.func206.trans (congrArg some (by kernel_rfl))
  f224 := Tryz.func228.trans (congrArg some (by kernel_rfl))
  f225 := Tryz.func227.trans (congrArg some (by kernel_rfl))
  f266 := Tryz.func238.trans (congrArg some (by kernel_rfl))
  f267 := Tryz.func229.trans (congrArg some (by kernel_rfl))
  f314 := Tryz.func239.trans (congrArg some (by kernel_rfl))
  t3 := Tryz.underlying3
  a3 := Tryz.isAgg3
  z3 := Tryz.sizeOf3
  v3 := Tryz.zeroValue3
  t4 := Tryz.underlying4
  a4 := Tryz.isAgg4
  z4 := Tryz.sizeOf4
  v4 := Tryz.zeroValue4
  t5 := Tryz.underlying5
  a5 := Tryz.isAgg5
  z5 := Tryz.sizeOf5
  v5 := Tryz.zeroValue5
  t9 := Tryz.underlying9
  a9 := Tryz.isAgg9
  z9 := Tryz.sizeOf9
  v9 := Tryz.zeroValue9
  t46 := Tryz.underlying129
  a46 := Tryz.isAgg129
  z46 := Tryz.sizeOf129
  v46 := Tryz.zeroValue129
  t51 := Tryz.underlying174
  a51 := Tryz.isAgg174
  z51 := Tryz.sizeOf174
  v51 := Tryz.zeroValue174
  t146 := Tryz.underlying175
  a146 := Tryz.isAgg175
  z146 := Tryz.sizeOf175
  v146 := Tryz.zeroValue175
  g1 := by kernel_rfl }
open Go.RowKit Go.Lib in
theorem Tryz.strings_Contains (s sub : ByteArray) (m : Int) (w : World) (hs : s.size < 4294967281) (hm : w.cell? ⟨4, 0, none⟩ = some (.int .i64 m)) :
    Calls Tryz.prog 87 #[.string s, .string sub] w fun e w' => e = .returned (.bool (Lib.contains s.data.toList sub.data.toList)) ∧ w' = w := Any.strings_Contains Tryz.lays144 s sub m w hs hm
def Tryz.lays99_ren : Go.Shelf.Ren := ⟨fun | 99 => 74 | 206 => 132 | n => n, fun | 9 => 9 | 4 => 4 | 3 => 3 | n => n, fun | n => n⟩
theorem Tryz.lays99 : Go.Proofs.Lays.n99 Tryz.prog Tryz.lays99_ren := {
  mixed := by kernel_rfl
  f99 := Tryz.func74.trans (congrArg some (by kernel_rfl))
  f206 := Tryz.func132.trans (congrArg some (by kernel_rfl))
  t3 := Tryz.underlying3
  a3 := Tryz.isAgg3
  z3 := Tryz.sizeOf3
  v3 := Tryz.zeroValue3
  t4 := Tryz.underlying4
  a4 := Tryz.isAgg4
  z4 := Tryz.sizeOf4
  v4 := Tryz.zeroValue4
  t9 := Tryz.underlying9
  a9 := Tryz.isAgg9
  z9 := Tryz.sizeOf9
  v9 := Tryz.zeroValue9 }
open Go.RowKit Go.Lib in
theorem Tryz.strings_HasPrefix (s p : ByteArray) (w : World) :
    Calls Tryz.prog 74 #[.string s, .string p] w fun e w' => e = .returned (.bool (Lib.hasPrefix s.data.toList p.data.toList)) ∧ w' = w := Any.strings_HasPrefix Tryz.lays99 s p w
def Tryz.lays100_ren : Go.Shelf.Ren := ⟨fun | 100 => 83 | 207 => 145 | n => n, fun | 9 => 9 | 4 => 4 | 3 => 3 | n => n, fun | n => n⟩
theorem Tryz.lays100 : Go.Proofs.Lays.n100 Tryz.prog Tryz.lays100_ren := {
  mixed := by kernel_rfl
  f100 := Tryz.func83.trans (congrArg some (by kernel_rfl))
  f207 := Tryz.func145.trans (congrArg some (by kernel_rfl))
  t3 := Tryz.underlying3
  a3 := Tryz.isAgg3
  z3 := Tryz.sizeOf3
  v3 := Tryz.zeroValue3
  t4 := Tryz.underlying4
  a4 := Tryz.isAgg4
  z4 := Tryz.sizeOf4
  v4 := Tryz.zeroValue4
  t9 := Tryz.underlying9
  a9 := Tryz.isAgg9
  z9 := Tryz.sizeOf9
  v9 := Tryz.zeroValue9 }
open Go.RowKit Go.Lib in
theorem Tryz.strings_HasSuffix (s p : ByteArray) (w : World) (hs : s.size ≤ 9223372036854775807) :
    Calls Tryz.prog 83 #[.string s, .string p] w fun e w' => e = .returned (.bool (Lib.hasSuffix s.data.toList p.data.toList)) ∧ w' = w := Any.strings_HasSuffix Tryz.lays100 s p w hs
def Tryz.laysM157_ren : Go.Shelf.Ren := ⟨fun | 157 => 112 | 229 => 169 | 199 => 170 | 261 => 215 | 311 => 233 | 312 => 234 | n => n, fun | 9 => 9 | 31 => 31 | 3 => 3 | 5 => 5 | 4 => 4 | 119 => 208 | 0 => 0 | 40 => 210 | 152 => 243 | 21 => 21 | 154 => 245 | 51 => 174 | 141 => 247 | 196 => 261 | 193 => 258 | 198 => 264 | 49 => 262 | 194 => 259 | 201 => 267 | 226 => 276 | 46 => 129 | 227 => 277 | n => n, fun | 0 => 0 | 6 => 5 | n => n⟩
theorem Tryz.laysM157 : Go.Proofs.LaysM.n157 Tryz.prog Tryz.laysM157_ren := {
  mixed := by kernel_rfl
  f157 := Tryz.func112.trans (congrArg some (by kernel_rfl))
  f199 := Tryz.func170.trans (congrArg some (by kernel_rfl))
  f229 := Tryz.func169.trans (congrArg some (by kernel_rfl))
  f261 := Tryz.func215.trans (congrArg some (by kernel_rfl))
  f311 := Tryz.func233.trans (congrArg some (by kernel_rfl))
  f312 := Tryz.func234.trans (congrArg some (by kernel_rfl))
  t0 := Tryz.underlying0
  a0 := Tryz.isAgg0
  z0 := Tryz.sizeOf0
  v0 := Tryz.zeroValue0
  t3 := Tryz.underlying3
  a3 := Tryz.isAgg3
  z3 := Tryz.sizeOf3
  v3 := Tryz.zeroValue3
  t4 := Tryz.underlying4
  a4 := Tryz.isAgg4
  z4 := Tryz.sizeOf4
  v4 := Tryz.zeroValue4
  t5 := Tryz.underlying5
  a5 := Tryz.isAgg5
  z5 := Tryz.sizeOf5
  v5 := Tryz.zeroValue5
  t9 := Tryz.underlying9
  a9 := Tryz.isAgg9
  z9 := Tryz.sizeOf9
  v9 := Tryz.zeroValue9
  t21 := Tryz.underlying21
  a21 := Tryz.isAgg21
  z21 := Tryz.sizeOf21
  v21 := Tryz.zeroValue21
  t31 := Tryz.underlying31
  a31 := Tryz.isAgg31
  z31 := Tryz.sizeOf31
  v31 := Tryz.zeroValue31
  t40 := Tryz.underlying210
  a40 := Tryz.isAgg210
  z40 := Tryz.sizeOf210
  v40 := Tryz.zeroValue210
  t46 := Tryz.underlying129
  a46 := Tryz.isAgg129
  z46 := Tryz.sizeOf129
  v46 := Tryz.zeroValue129
  t49 := Tryz.underlying262
  a49 := Tryz.isAgg262
  z49 := Tryz.sizeOf262
  v49 := Tryz.zeroValue262
  t51 := Tryz.underlying174
  a51 := Tryz.isAgg174
  z51 := Tryz.sizeOf174
  v51 := Tryz.zeroValue174
  t119 := Tryz.underlying208
  a119 := Tryz.isAgg208
  z119 := Tryz.sizeOf208
  t141 := Tryz.underlying247
  a141 := Tryz.isAgg247
  z141 := Tryz.sizeOf247
  v141 := Tryz.zeroValue247
  t152 := Tryz.underlying243
  a152 := Tryz.isAgg243
  z152 := Tryz.sizeOf243
  v152 := Tryz.zeroValue243
  t154 := Tryz.underlying245
  a154 := Tryz.isAgg245
  z154 := Tryz.sizeOf245
  v154 := Tryz.zeroValue245
  t193 := Tryz.underlying258
  a193 := Tryz.isAgg258
  z193 := Tryz.sizeOf258
  v193 := Tryz.zeroValue258
  t194 := Tryz.underlying259
  a194 := Tryz.isAgg259
  z194 := Tryz.sizeOf259
  v194 := Tryz.zeroValue259
  t196 := Tryz.underlying261
  a196 := Tryz.isAgg261
  z196 := Tryz.sizeOf261
  v196 := Tryz.zeroValue261
  t198 := Tryz.underlying264
  a198 := Tryz.isAgg264
  z198 := Tryz.sizeOf264
  v198 := Tryz.zeroValue264
  t201 := Tryz.underlying267
  a201 := Tryz.isAgg267
  z201 := Tryz.sizeOf267
  v201 := Tryz.zeroValue267
  t226 := Tryz.underlying276
  a226 := Tryz.isAgg276
  z226 := Tryz.sizeOf276
  v226 := Tryz.zeroValue276
  t227 := Tryz.underlying277
  a227 := Tryz.isAgg277
  z227 := Tryz.sizeOf277
  v227 := Tryz.zeroValue277
  g0 := by kernel_rfl
  g6 := by kernel_rfl
  i0 := by kernel_rfl
  i3 := by kernel_rfl
  i4 := by kernel_rfl
  i5 := by kernel_rfl
  i9 := by kernel_rfl
  i21 := by kernel_rfl
  i31 := by kernel_rfl
  i40 := by kernel_rfl
  i46 := by kernel_rfl
  i49 := by kernel_rfl
  i51 := by kernel_rfl
  i141 := by kernel_rfl
  i152 := by kernel_rfl
  i154 := by kernel_rfl
  i193 := by kernel_rfl
  i194 := by kernel_rfl
  i196 := by kernel_rfl
  i198 := by kernel_rfl
  i201 := by kernel_rfl
  i226 := by kernel_rfl
  i227 := by kernel_rfl
  m0 := by kernel_rfl
  m6 := by kernel_rfl }
open Go.RowKit Go.Lib in
theorem Tryz.strings_Fields_laid (s : ByteArray) (w : World) (hs : s.size < 4294967281) (hascii : ∀ (j : Nat) b, s.data.toList[j]? = some b → b.toNat < 128) (htab : Lib.TabIs Tryz.prog w "strings.asciiSpace" .u8 Lib.asciiSpaceTab) :
    Calls Tryz.prog 112 #[.string s] w fun e w' =>
      e = .returned (.slice (some ⟨w.heap.size, 0, none⟩) (Lib.fields s.data.toList).length (Lib.fields s.data.toList).length) ∧ w' = w.alloc (.cells ((Lib.fields s.data.toList).map fun l => Value.string ⟨l.toArray⟩).toArray 9) := Any.strings_Fields_laid Tryz.laysM157 s w hs hascii htab
def Tryz.lays150_ren : Go.Shelf.Ren := ⟨fun | 150 => 151 | 153 => 208 | 152 => 222 | 226 => 230 | 227 => 136 | 228 => 196 | 137 => 207 | 119 => 236 | 224 => 228 | 225 => 227 | 217 => 226 | 266 => 238 | n => n, fun | 9 => 9 | 4 => 4 | 3 => 3 | 5 => 5 | 21 => 21 | 117 => 183 | 116 => 182 | 0 => 0 | 46 => 129 | 124 => 186 | n => n, fun | n => n⟩
theorem Tryz.lays150 : Go.Proofs.Lays.n150 Tryz.prog Tryz.lays150_ren := {
  mixed := by kernel_rfl
  f119 := Tryz.func236.trans (congrArg some (by kernel_rfl))
  f137 := Tryz.func207.trans (congrArg some (by kernel_rfl))
  f150 := Tryz.func151.trans (congrArg some (by kernel_rfl))
  f152 := Tryz.func222.trans (congrArg some (by kernel_rfl))
  f153 := Tryz.func208.trans (congrArg some (by kernel_rfl))
  f217 := Tryz.func226.trans (congrArg some (by kernel_rfl))
  f224 := Tryz.func228.trans (congrArg some (by kernel_rfl))
  f225 := Tryz.func227.trans (congrArg some (by kernel_rfl))
  f226 := Tryz.func230.trans (congrArg some (by kernel_rfl))
  f227 := Tryz.func136.trans (congrArg some (by kernel_rfl))
  f228 := Tryz.func196.trans (congrArg some (by kernel_rfl))
  f266 := Tryz.func238.trans (congrArg some (by kernel_rfl))
  t0 := Tryz.underlying0
  a0 := Tryz.isAgg0
  z0 := Tryz.sizeOf0
  v0 := Tryz.zeroValue0
  t3 := Tryz.underlying3
  a3 := Tryz.isAgg3
  z3 := Tryz.sizeOf3
  v3 := Tryz.zeroValue3
  t4 := Tryz.underlying4
  a4 := Tryz.isAgg4
  z4 := Tryz.sizeOf4
  v4 := Tryz.zeroValue4
  t5 := Tryz.underlying5
  a5 := Tryz.isAgg5
  z5 := Tryz.sizeOf5
  v5 := Tryz.zeroValue5
  t9 := Tryz.underlying9
  a9 := Tryz.isAgg9
  z9 := Tryz.sizeOf9
  v9 := Tryz.zeroValue9
  t21 := Tryz.underlying21
  a21 := Tryz.isAgg21
  z21 := Tryz.sizeOf21
  v21 := Tryz.zeroValue21
  t46 := Tryz.underlying129
  a46 := Tryz.isAgg129
  z46 := Tryz.sizeOf129
  v46 := Tryz.zeroValue129
  t116 := Tryz.underlying182
  a116 := Tryz.isAgg182
  z116 := Tryz.sizeOf182
  t117 := Tryz.underlying183
  a117 := Tryz.isAgg183
  z117 := Tryz.sizeOf183
  v117 := Tryz.zeroValue183
  t124 := Tryz.underlying186
  a124 := Tryz.isAgg186
  z124 := Tryz.sizeOf186
  v124 := Tryz.zeroValue186 }
open Go.RowKit Go.Lib in
theorem Tryz.strings_ContainsAny_laid (s chars : ByteArray) (w : World) (hs : s.size < 4294967281) (hcs : chars.size < 4294967281) (has : ∀ (j : Nat) b, s.data.toList[j]? = some b → b.toNat < 128) (hac : ∀ (j : Nat) b, chars.data.toList[j]? = some b → b.toNat < 128) :
    Calls Tryz.prog 151 #[.string s, .string chars] w fun e w' => e = .returned (.bool (Lib.containsAny s.data.toList chars.data.toList)) ∧ Below w.heap.size w w' := Any.strings_ContainsAny_laid Tryz.lays150 (by kernel_rfl) s chars w hs hcs has hac
def Tryz.lays105_ren : Go.Shelf.Ren := ⟨fun | 105 => 34 | 212 => 73 | 99 => 74 | 165 => 75 | 166 => 76 | 170 => 77 | 169 => 78 | 263 => 130 | 264 => 131 | 206 => 132 | 240 => 133 | 241 => 134 | 276 => 194 | 277 => 195 | n => n, fun | 9 => 9 | 3 => 3 | 4 => 4 | 20 => 20 | 0 => 0 | 46 => 129 | 109 => 130 | 5 => 5 | 72 => 136 | 76 => 85 | 51 => 174 | 146 => 175 | 53 => 169 | 148 => 177 | 70 => 133 | 37 => 134 | 75 => 84 | 127 => 179 | 164 => 223 | 80 => 139 | n => n, fun | n => n⟩
theorem Tryz.lays105 : Go.Proofs.Lays.n105 Tryz.prog Tryz.lays105_ren := {
  mixed := by kernel_rfl
  f99 := Tryz.func74.trans (congrArg some (by kernel_rfl))
  f105 := Tryz.func34.trans (congrArg some (by kernel_rfl))
  f165 := Tryz.func75.trans (congrArg some (by kernel_rfl))
  f166 := Tryz.func76.trans (congrArg some (by kernel_rfl))
  f169 := Tryz.func78.trans (congrArg some (by kernel_rfl))
  f170 := Tryz.func77.trans (congrArg some (by kernel_rfl))
  f206 := Tryz.func132.trans (congrArg some (by kernel_rfl))
  f212 := Tryz.func73.trans (congrArg some (by kernel_rfl))
  f240 := Tryz.func133.trans (congrArg some (by kernel_rfl))
  f241 := Tryz.func134.trans (congrArg some (by kernel_rfl))
  f263 := Tryz.func130.trans (congrArg some (by kernel_rfl))
  f264 := Tryz.func131.trans (congrArg some (by kernel_rfl))
  f276 := Tryz.func194.trans (congrArg some (by kernel_rfl))
  f277 := Tryz.func195.trans (congrArg some (by kernel_rfl))
  t0 := Tryz.underlying0
  a0 := Tryz.isAgg0
  z0 := Tryz.sizeOf0
  v0 := Tryz.zeroValue0
  t3 := Tryz.underlying3
  a3 := Tryz.isAgg3
  z3 := Tryz.sizeOf3
  v3 := Tryz.zeroValue3
  t4 := Tryz.underlying4
  a4 := Tryz.isAgg4
  z4 := Tryz.sizeOf4
  v4 := Tryz.zeroValue4
  t5 := Tryz.underlying5
  a5 := Tryz.isAgg5
  z5 := Tryz.sizeOf5
  v5 := Tryz.zeroValue5
  t9 := Tryz.underlying9
  a9 := Tryz.isAgg9
  z9 := Tryz.sizeOf9
  v9 := Tryz.zeroValue9
  t20 := Tryz.underlying20
  a20 := Tryz.isAgg20
  z20 := Tryz.sizeOf20
  v20 := Tryz.zeroValue20
  t37 := Tryz.underlying134
  a37 := Tryz.isAgg134
  z37 := Tryz.sizeOf134
  v37 := Tryz.zeroValue134
  t46 := Tryz.underlying129
  a46 := Tryz.isAgg129
  z46 := Tryz.sizeOf129
  v46 := Tryz.zeroValue129
  t51 := Tryz.underlying174
  a51 := Tryz.isAgg174
  z51 := Tryz.sizeOf174
  v51 := Tryz.zeroValue174
  t53 := Tryz.underlying169
  a53 := Tryz.isAgg169
  z53 := Tryz.sizeOf169
  v53 := Tryz.zeroValue169
  t70 := Tryz.underlying133
  a70 := Tryz.isAgg133
  z70 := Tryz.sizeOf133
  v70 := Tryz.zeroValue133
  t72 := Tryz.underlying136
  a72 := Tryz.isAgg136
  z72 := Tryz.sizeOf136
  v72 := Tryz.zeroValue136
  t75 := Tryz.underlying84
  a75 := Tryz.isAgg84
  z75 := Tryz.sizeOf84
  v75 := Tryz.zeroValue84
  t76 := Tryz.underlying85
  a76 := Tryz.isAgg85
  z76 := Tryz.sizeOf85
  v76 := Tryz.zeroValue85
  t109 := Tryz.underlying130
  a109 := Tryz.isAgg130
  z109 := Tryz.sizeOf130
  v109 := Tryz.zeroValue130
  t127 := Tryz.underlying179
  a127 := Tryz.isAgg179
  z127 := Tryz.sizeOf179
  v127 := Tryz.zeroValue179
  t146 := Tryz.underlying175
  a146 := Tryz.isAgg175
  z146 := Tryz.sizeOf175
  v146 := Tryz.zeroValue175
  t148 := Tryz.underlying177
  a148 := Tryz.isAgg177
  z148 := Tryz.sizeOf177
  v148 := Tryz.zeroValue177
  t164 := Tryz.underlying223
  a164 := Tryz.isAgg223
  z164 := Tryz.sizeOf223
  v164 := Tryz.zeroValue223 }
theorem Tryz.Builder_Extra_105 : Builder.Extra Tryz.prog Tryz.lays105_ren := {
  sizeBuilder := by kernel_rfl
  liesBuilder := by kernel_rfl
  t5 := Tryz.underlying5
  a5 := Tryz.isAgg5
  z5 := Tryz.sizeOf5
  v5 := Tryz.zeroValue5
  infoByte := by kernel_rfl
  cellsByte := by kernel_rfl
  sizeByte := by kernel_rfl
  neB5 := by decide }
open Go.RowKit Go.Lib in
theorem Tryz.strings_Repeat (s : ByteArray) (c : Nat) (w : World) (hc : c ≤ 9223372036854775807) (hlen : s.size * c ≤ 140737488355328) :
    Calls Tryz.prog 34 #[.string s, .int .i64 c] w fun e w' => e = .returned (.string ⟨(Lib.repeatL s.data.toList c).toArray⟩) ∧ Below w.heap.size w w' := Any.strings_Repeat Tryz.lays105 Tryz.Builder_Extra_105 s c w hc hlen
end Go.Proofs

namespace Go.Proofs.YtaoobkgepcikiaaGreatDoor
set_option linter.unusedVariables false
section
open Go.RowKit
def ErrsLaid (w:World):Prop:=(∃ t p,w.cell? ⟨2,0,none⟩ = some (.iface t p)) ∧ (∃ t p,w.cell? ⟨3,0,none⟩ = some (.iface t p)) ∧ 2 < w.heap.size ∧ 3 < w.heap.size
theorem ErrsLaid.keep {w w':World} (h:ErrsLaid w) (hs:w.heap.size ≤ w'.heap.size) (h1:w'.cell? ⟨2,0,none⟩ = w.cell? ⟨2,0,none⟩) (h2:w'.cell? ⟨3,0,none⟩ = w.cell? ⟨3,0,none⟩):ErrsLaid w':=
 ⟨by rw [h1]; exact h.1,by rw [h2]; exact h.2.1,by have:=h.2.2.1; omega,by have:=h.2.2.2; omega⟩
theorem ErrsLaid.below {w w':World} {B:Nat} (h:ErrsLaid w) (hb:Below B w w') (hB:w.heap.size ≤ B):ErrsLaid w':=
 h.keep hb.size (hb.cell (Nat.lt_of_lt_of_le h.2.2.1 hB)) (hb.cell (Nat.lt_of_lt_of_le h.2.2.2 hB))
def AtoiP (s:ByteArray) (n:Int) (ev:Value):Prop:=
 (Lib.atoiAll s.data.toList = .ok n ∧ ev = .nilIface) ∨ ((∀ v,Lib.atoiAll s.data.toList ≠ .ok v) ∧ ∃ t N,ev = .iface t (.pointer (some ⟨N,0,none⟩)))
def AtoiR (s:ByteArray) (w:World) (e:Ending) (w':World):Prop:=∃ n ev,AtoiP s n ev ∧ e = .returned (.tuple #[.int .i64 n,ev]) ∧ Below w.heap.size w w'
theorem atoi_c (s:ByteArray) (w:World) (hs:s.size ≤ 140737488355328) (hl:ErrsLaid w):Calls Tryz.prog 40 #[.string s] w (AtoiR s w):=by
 obtain ⟨⟨t1,p1,h1⟩,⟨t2,p2,h2⟩,_,_⟩:=hl
 cases h:Lib.atoiAll s.data.toList
 case ok v=>
  refine (Any.strconv_Atoi_ok Tryz.laysC172 s (by omega) v h w).mono ?_
  rintro e w' ⟨he,hw⟩
  refine ⟨v,_,.inl ⟨h,rfl⟩,he,?_⟩
  rcases hw with rfl | ⟨t,rfl⟩
  ·exact Below.refl _ _
  ·exact Joins.below_bytesWorld _ _ _ _ (Nat.le_refl _)
 ·refine (Any.strconv_Atoi_syntax Tryz.laysC172 s (by omega) h _ w h1 (.inr ⟨_,_,rfl⟩)).mono ?_
  rintro e w' ⟨N,he,_,_,hb⟩
  exact ⟨_,_,.inr ⟨(fun v hv=>by rw [h] at hv; cases hv),_,_,rfl⟩,he,hb⟩
 ·refine (Any.strconv_Atoi_range Tryz.laysC172 s (by omega) h _ w h2 (.inr ⟨_,_,rfl⟩)).mono ?_
  rintro e w' ⟨N,he,_,_,hb⟩
  exact ⟨_,_,.inr ⟨(fun v hv=>by rw [h] at hv; cases hv),_,_,rfl⟩,he,hb⟩
end
section
open Go.RowKit
theorem join_c (l:List ByteArray) (sep:ByteArray) (v:Value) (F:Nat → Prop) (w:World) (hv:Sli strR w F l v) (hF:∀ b,F b → b < w.heap.size) (hlen:(Lib.join (l.map (·.data.toList)) sep.data.toList).length ≤ 140737488355328) (hN:l.length ≤ 140737488355328) :
  Calls Tryz.prog 111 #[v,.string sep] w fun e w'=>e = .returned (.string ⟨(Lib.join (l.map (·.data.toList)) sep.data.toList).toArray⟩) ∧ Below w.heap.size w w':=by
 obtain ⟨A,c,rfl,h1,h2,h3⟩:=hv
 by_cases h0:0 < l.length
 ·obtain ⟨b,off,cs,rfl,hb,hl,hc⟩:=h3 h0
  refine Any.strings_Join Tryz.lays156 Tryz.Builder_Extra_156 b off c l sep w (fun j x hx=>?_) (hF b hb) hN h1 hlen
  have h4:(cs.drop (j * 1)).take 1 = [.string x]:=hl.2 j x hx
  refine hc j _ ?_
  have h5:((cs.drop (j * 1)).take 1)[0]? = some (.string x):=by rw [h4]; rfl
  rw [List.getElem?_take,if_pos (by decide),List.getElem?_drop] at h5
  simpa using h5
 ·have:l = []:=List.length_eq_zero_iff.1 (by omega)
  subst this
  exact (Any.strings_Join_none Tryz.lays156 Tryz.Builder_Extra_156 A c sep w).mono fun e w' ⟨he,hw⟩=>⟨he,hw ▸ Below.refl _ _⟩
end
section
open Go.RowKit
end
section
open Go.RowKit
theorem strNew (w:World) (A:Option Addr) (l:List Int) (c:Nat) (hr:Rs w 0 w.heap.size 1 intc A l) (hl:l.length ≤ 17592186044416) (ho:∀ x ∈ l,okI x) :
  Str (w.alloc (.cells #[.slice A l.length c,.int .i64 0] 25)) w.heap.size 0:=
 ⟨A,c,l,heap_alloc_new w _,Int.le_refl _,hr.alloc (Nat.le_refl _) _,hl,ho⟩
theorem gEnd {w w1:World} {o:Obj} (h:(w.alloc o).grownBy w1 (some w.heap.size)):Below w.heap.size w w1:=
 ⟨h.os,h.tape,h.output,by have:=h.size; simp at this; omega,fun i hi=>(h.block i (by simp; omega) (by simp; omega)).trans (Below.heap_alloc w _ i hi)⟩
end
section
open Go.RowKit
theorem trim_c (s cs:ByteArray) (w:World) (hs:s.size ≤ 140737488355328) (hcs:cs.size ≤ 1000) (ha:(cs.data.toList.all fun b=>decide (b.toNat < 128)) = true) :
  Calls Tryz.prog 144 #[.string s,.string cs] w fun e w'=>e = .returned (.string ⟨(Lib.trimS s.data.toList cs.data.toList).toArray⟩) ∧ Below w.heap.size w w':=
 Any.strings_Trim_laid Tryz.lays160 (by kernel_rfl) s cs w (by omega) (by omega) (ascii_of_all ha)
theorem dropWhile_nil {p:UInt8 → Bool} {l:List UInt8}:l.dropWhile p = [] ↔ ∀ x ∈ l,p x = true:=by
 induction l with
 | nil=>simp
 | cons y l ih=>
  cases h:p y with
  | true=>simp [h,ih]
  | false=>simp [h]
theorem trimS_nil (l cs:List UInt8):Lib.trimS l cs = [] ↔ l.all (cs.contains ·) = true:=by
 unfold Lib.trimS Lib.trimLeftS Lib.trimRightS
 constructor
 ·intro h
  have h1:∀ x ∈ (l.reverse.dropWhile (cs.contains ·)),cs.contains x = true:=by
   have:=dropWhile_nil.1 h
   simpa using this
  cases hd:l.reverse.dropWhile (cs.contains ·) with
  | nil=>
   have:=dropWhile_nil.1 hd
   rw [List.all_eq_true]
   intro x hx
   exact this x (by simpa using hx)
  | cons y t=>
   have h2:=h1 y (by rw [hd]; simp)
   have h3:=List.head_dropWhile_not (p:=(cs.contains ·)) (l:=l.reverse) (by rw [hd]; simp)
   simp only [hd,List.head_cons] at h3
   rw [h3] at h2; cases h2
 ·intro h
  rw [List.all_eq_true] at h
  have:l.reverse.dropWhile (cs.contains ·) = []:=dropWhile_nil.2 (fun x hx=>h x (by simpa using hx))
  rw [this]; rfl
theorem toList_mk (l:List UInt8):(⟨l.toArray⟩:ByteArray).toList = l:=by rw [ByteArray.toList_eq]
set_option maxHeartbeats 400000 in
theorem made_c (s cs:ByteArray) (w:World) (hs:s.size ≤ 140737488355328) (hcs:cs.size ≤ 1000) (ha:(cs.data.toList.all fun b=>decide (b.toNat < 128)) = true) :
  Calls Tryz.prog 82 #[.string s,.string cs] w fun e w'=>e = .returned (.bool (allB (cs.data.toList.contains ·) s)) ∧ Below w.heap.size w w':=by
 cases h:allB (cs.data.toList.contains ·) s with
 | true=>
  have h2:(⟨(Lib.trimS s.data.toList cs.data.toList).toArray⟩:ByteArray) = ⟨#[]⟩:=by rw [(trimS_nil _ _).2 h]
  have H:=Lib.hid h2
  clear h2 h
  go_enter Tryz.func82,Tryz.ntmps82
  go_wp2_with fail
  refine (trim_c s cs _ hs hcs ha).mono ?_
  rintro e w' ⟨rfl,hb⟩
  rw [H.out]
  go_wp2
  go_ret
  exact ⟨rfl,hb⟩
 | false=>
  have h2:(⟨(Lib.trimS s.data.toList cs.data.toList).toArray⟩:ByteArray).toList.isEmpty = false:=by
   rw [toList_mk]
   cases he:Lib.trimS s.data.toList cs.data.toList with
   | nil=>rw [(trimS_nil _ _).1 he |> (show _ → allB (cs.data.toList.contains ·) s = true from id)] at h; cases h
   | cons y t=>rfl
  have H:=Lib.hid h2
  clear h2 h
  go_enter Tryz.func82,Tryz.ntmps82
  go_wp2_with fail
  refine (trim_c s cs _ hs hcs ha).mono ?_
  rintro e w' ⟨rfl,hb⟩
  generalize (⟨(Lib.trimS s.data.toList cs.data.toList).toArray⟩:ByteArray) = t at H ⊢
  have h2:=H.out
  go_wp2
  go_ret
  exact ⟨rfl,hb⟩
set_option maxHeartbeats 400000 in
theorem long_c (s:ByteArray) (lo hi:Int) (w:World) (hs:s.size ≤ 140737488355328) :
  Calls Tryz.prog 55 #[.string s,.int .i64 lo,.int .i64 hi] w fun e w'=>e = .returned (.bool (decide (lo ≤ s.size) && decide ((s.size:Int) ≤ hi))) ∧ w = w':=by
 by_cases h1:lo ≤ (s.size:Int)
 all_goals
  go_enter Tryz.func55,Tryz.ntmps55
  go_wp2
  go_ret
  exact ⟨ret_bool (by first | (simp [h1]; done) | (simp; omega)),rfl⟩
end
end Go.Proofs.YtaoobkgepcikiaaGreatDoor
/- The shelf contracts that these proofs use, laid at this translation. -/
namespace Go.Proofs
open Go.Shelf

end Go.Proofs

namespace Go.Proofs.YtaoobkgepcikiaaGreatDoor
set_option linter.unusedVariables false
end Go.Proofs.YtaoobkgepcikiaaGreatDoor
/- The shelf contracts that these proofs use, laid at this translation. -/
namespace Go.Proofs
open Go.Shelf

end Go.Proofs

namespace Go.Proofs.YtaoobkgepcikiaaGreatDoor
set_option linter.unusedVariables false
section
open Go.RowKit Go.Sort
end
section
open Go.RowKit
theorem below_of_regrown {w w':World} (h:∃ p:Regrown,w' = Sort.grow (redrawn w p.d) p.os):Below w.heap.size w w':=by
 obtain ⟨p,rfl⟩:=h
 exact below_regrown w p.d p.os
end
section
open Go.RowKit Go.Sort
end
section
open Go.RowKit
def cutI (s:ByteArray) (c:UInt8):Nat:=s.data.toList.findIdx (· == c)
def cutF (s:ByteArray) (c:UInt8):Bool:=decide (cutI s c < s.size)
def cutA (s:ByteArray) (c:UInt8):ByteArray:=s.extract 0 (cutI s c)
def cutB (s:ByteArray) (c:UInt8):ByteArray:=s.extract (cutI s c + 1) s.size
theorem cutB_size (s:ByteArray) (c:UInt8):(cutB s c).size ≤ s.size:=by unfold cutB; rw [ByteArray.size_extract]; omega
theorem idxB_no {s:ByteArray} {c:UInt8} (h:¬ cutI s c < s.size):Lib.indexByte s.data.toList c = -1:=by
 by_cases h1:Lib.indexByte s.data.toList c = -1
 ·exact h1
 ·exfalso
  have hg:=Lib.indexByte_ge s.data.toList c
  obtain ⟨o,ho⟩:=Int.eq_ofNat_of_zero_le (show 0 ≤ Lib.indexByte s.data.toList c by omega)
  obtain ⟨h2,_⟩:=Lib.indexByte_some ho
  obtain ⟨hlt,h3⟩:=List.getElem?_eq_some_iff.1 h2
  exact h (by
   have h4:cutI s c < s.data.toList.length:=List.findIdx_lt_length_of_exists ⟨c,by rw [← h3]; exact List.getElem_mem hlt,by simp⟩
   simpa using h4)
theorem idxB_yes {s:ByteArray} {c:UInt8} (h:cutI s c < s.size):Lib.indexByte s.data.toList c = (cutI s c:Int):=by
 have hl:cutI s c < s.data.toList.length:=by simpa using h
 have hg:=Lib.indexByte_ge s.data.toList c
 have hc:s.data.toList[cutI s c] = c:=by have:=List.findIdx_getElem (p:=(· == c)) (w:=hl); exact eq_of_beq this
 have hne:Lib.indexByte s.data.toList c ≠ -1:=fun e=>Lib.indexByte_none e (cutI s c) (by rw [List.getElem?_eq_getElem hl,hc])
 obtain ⟨o,ho⟩:=Int.eq_ofNat_of_zero_le (show 0 ≤ Lib.indexByte s.data.toList c by omega)
 obtain ⟨h2,h3⟩:=Lib.indexByte_some ho
 obtain ⟨hlt,h4⟩:=List.getElem?_eq_some_iff.1 h2
 rcases Nat.lt_trichotomy o (cutI s c) with h5 | h5 | h5
 ·have:=List.not_of_lt_findIdx (p:=(· == c)) (xs:=s.data.toList) h5
  simp [h4] at this
 ·rw [ho,h5]
 ·exact absurd (by rw [List.getElem?_eq_getElem hl,hc]) (h3 _ h5)
theorem extract_list' (s:ByteArray) (a b:Nat):(s.extract a b).data.toList = (s.data.toList.drop a).take (b - a):=by simp
theorem ba_ext {a b:ByteArray} (h:a.data.toList = b.data.toList):a = b:=by
 rcases a with ⟨⟨a⟩⟩; rcases b with ⟨⟨b⟩⟩; simp at h; rw [h]
end
section
open Go.RowKit
end
section
open Go.RowKit Go.Sort
def PowLaid (w : World) : Prop := Lib.TabIs Tryz.prog w "internal/strconv.uint64pow10" .u64 Lib.pow10Tab
theorem pow_below {w w':World} {B:Nat} (h:PowLaid w) (hb:Below B w w') (hB:w.heap.size ≤ B):PowLaid w':=
 Joins.tab_stays (g:=1) (by kernel_rfl) h hb hB
theorem below_grow {w w':World} {k:Nat} {os:Array Obj} (h:w' = grow (w.drewN k) os):Below w.heap.size w w':=by
 subst h
 exact below_regrown w (w.drawn + k) os
theorem itoa_c (n:Int) (w:World) (hn:okI n) (hp:PowLaid w):Calls Tryz.prog 14 #[.int .i64 n] w fun e w'=>e = .returned (.string ⟨(Lib.itoa n).toArray⟩) ∧ Below w.heap.size w w':=
 (Any.strconv_Itoa Tryz.laysM171 n hn.1 hn.2 w hp).mono fun _ _ ⟨he,k,os,hw⟩=>⟨he,below_grow hw⟩
end
section
open Go.RowKit Go.Sort
end
section
open Go.RowKit Go.Sort
theorem oneOf {l:List ByteArray} {x:ByteArray} {n:Nat} (h:(l.all fun x=>decide (x.size ≤ n)) = true) (hx:x ∈ l):x.size ≤ n:=by
 rw [List.all_eq_true] at h; simpa using h x hx
end
section
open Go.RowKit Go.Sort
end
section
open Go.RowKit
theorem idx_set (set:List UInt8) (c:UInt8):(set.contains c = true → 0 ≤ Lib.indexByte set c) ∧ (set.contains c = false → Lib.indexByte set c < 0):=by
 have hg:=Lib.indexByte_ge set c
 constructor
 ·intro h
  by_cases h1:Lib.indexByte set c = -1
  ·have hm:c ∈ set:=by simpa using h
   obtain ⟨k,hk,e⟩:=List.mem_iff_getElem.1 hm
   exact absurd (by rw [List.getElem?_eq_getElem hk,e]) (Lib.indexByte_none h1 k)
  ·omega
 ·intro h
  by_cases h1:0 ≤ Lib.indexByte set c
  ·obtain ⟨o,ho⟩:=Int.eq_ofNat_of_zero_le h1
   obtain ⟨h2,_⟩:=Lib.indexByte_some ho
   have:c ∈ set:=List.mem_of_getElem? h2
   simp at h; exact absurd this h
  ·omega
theorem idxB_c (set:ByteArray) (c:UInt8) (w:World):Calls Tryz.prog 207 #[.string set,.int .u8 (c.toNat:Int)] w fun e w'=>e = .returned (.int .i64 (Lib.indexByte set.data.toList c)) ∧ w = w':=by
 refine (Tryz.strings_IndexByte set (c.toNat:Int) w).mono ?_
 rintro e w' ⟨he,hw⟩
 refine ⟨?_,hw.symm⟩
 rw [he]
 have:((c.toNat:Int)).toNat.toUInt8 = c:=by simp
 rw [this]
end
section
open Go.RowKit
end
section
open Go.RowKit
theorem strAt {w:World} {F:Nat → Prop} {l:List ByteArray} {A:Option Addr} {n c:Nat} (h:Sli strR w F l (.slice A n c)) (k:Nat) (hk:k < l.length):∃ b off,A = some ⟨b,off,none⟩ ∧ F b ∧ w.cell? ⟨b,off + k,none⟩ = some (.string l[k]):=by
 obtain ⟨b,off,a,e,hb,hr,hc⟩:=h.at_ k hk
 have ha:a = [.string l[k]]:=hr
 subst ha
 refine ⟨b,off,e,hb,?_⟩
 have h:=hc 0 _ rfl
 rw [show off + k * strR.n + 0 = off + k from by show off + k * 1 + 0 = _; omega] at h
 exact h
theorem eq_take_next {α:Type} {a b:List α} {k:Nat} (h1:k < a.length) (h2:k < b.length) (h:a.take k = b.take k) (e:a[k] = b[k]):a.take (k + 1) = b.take (k + 1):=by
 rw [List.take_succ_eq_append_getElem h1,List.take_succ_eq_append_getElem h2,h,e]
theorem ne_at {α:Type} {a b:List α} {k:Nat} (h1:k < a.length) (h2:k < b.length) (e:¬ a[k] = b[k]):¬ a = b:=by
 intro h; subst h; exact e rfl
set_option maxRecDepth 100000 in
set_option maxHeartbeats 800000 in
theorem eqStr_c (l1 l2:List ByteArray) (v1 v2:Value) (F:Nat → Prop) (w:World) (h1:Sli strR w F l1 v1) (h2:Sli strR w F l2 v2) (hF:∀ b,F b → b < w.heap.size) :
  Calls Tryz.prog 28 #[v1,v2] w fun e w'=>e = .returned (.bool (decide (l1 = l2))) ∧ Below w.heap.size w w':=by
 obtain ⟨A1,c1,rfl,hlc1,hc1⟩:=h1.form
 obtain ⟨A2,c2,rfl,hlc2,hc2⟩:=h2.form
 have H1:=Lib.hid h1; clear h1
 have H2:=Lib.hid h2; clear h2
 have HF:=Lib.hid hF; clear hF
 by_cases hne:l1.length = l2.length
 ·obtain ⟨n,hn1⟩:∃ n,l1.length = n:=⟨_,rfl⟩
  have hn2:l2.length = n:=by omega
  rw [hn1] at H1 hlc1 ⊢
  rw [hn2] at H2 ⊢
  go_enter Tryz.func28,Tryz.ntmps28
  go_wp2
  go_loopw [13] (fun i wr=>∃ k:Nat,k ≤ n ∧ i = .int .i64 k ∧ Below w.heap.size w wr ∧ Hid (l1.take k = l2.take k)) (fun i _=>n - (intOf i).toNat)
  case atStart=>exact ⟨0,Nat.zero_le _,rfl,Below.refl _ _,rfl⟩
  case round=>
   obtain ⟨k,hk,rfl,hb,HT⟩:=hrel
   by_cases hlt:k < n
   ·obtain ⟨b,off,rfl,hfb,c0⟩:=strAt (H1.out.below hb HF.out) k (by omega)
    obtain ⟨b2,off2,rfl,hfb2,d0⟩:=strAt (H2.out.below hb HF.out) k (by omega)
    by_cases he:l1[k]'(by omega) = l2[k]'(by omega)
    ·have HN:=Lib.hid (eq_take_next (by omega) (by omega) HT.out he)
     rw [he] at c0
     clear he
     generalize l2[k]'(by omega) = x at *
     go_wp2
     go_quiet (fail)
     go_wp2
     go_roundw
     case rel=>exact ⟨k + 1,by omega,intNum,by first | exact hb | exact hb.drew | exact below_drewN hb _,HN.out⟩
     case measure=>simp [intOf]; omega
    ·have HN:=Lib.hid (ne_at (by omega) (by omega) he)
     generalize l1[k]'(by omega) = x at *
     generalize l2[k]'(by omega) = y at *
     have hq:(x.toList == y.toList) = false:=by rw [beqS]; simpa using he
     go_wp2
     go_quiet (fail)
     go_wp2
     go_ret
     exact ⟨ret_bool (by symm; simpa using HN.out),by first | exact hb | exact hb.drew | exact below_drewN hb _⟩
   ·have e:k = n:=by omega
    have HN:=Lib.hid (show l1 = l2 by have:=HT.out; rwa [List.take_of_length_le (by omega),List.take_of_length_le (by omega)] at this)
    go_wp2
    go_ret
    exact ⟨ret_bool (by symm; simpa using HN.out),hb⟩
 ·have HN:=Lib.hid (show ¬ l1 = l2 by intro h; exact hne (by rw [h]))
  have hz:¬ (l1.length:Int) = l2.length:=by omega
  go_enter Tryz.func28,Tryz.ntmps28
  go_wp2
  go_ret
  exact ⟨ret_bool (by symm; simpa using HN.out),Below.refl _ _⟩
instance:DecidableEq Copied:=fun a b=>decidable_of_iff (a.eqB b = true) Copied.eqB_iff
end
section
open Go.RowKit
end
section
open Go.RowKit Go.Sort
theorem pow_block {w w':World} (h:PowLaid w) (hk:w'.heap[1]? = w.heap[1]?):PowLaid w':=by
 unfold PowLaid Lib.TabIs World.var? at *
 rw [show Tryz.prog.globalNamed "internal/strconv.uint64pow10" = some 1 by kernel_rfl] at *
 simp only [Option.bind_some] at *
 rw [hk]; exact h
theorem pow_lt {w:World} (h:PowLaid w):1 < w.heap.size:=by
 unfold PowLaid Lib.TabIs World.var? at h
 rw [show Tryz.prog.globalNamed "internal/strconv.uint64pow10" = some 1 by kernel_rfl] at h
 simp only [Option.bind_some] at h
 rcases Nat.lt_or_ge 1 w.heap.size with h' | h'
 ·exact h'
 ·simp [Array.getElem?_eq_none h'] at h
def LaidS (sb:Nat) (w:World):Prop:=ErrsLaid w ∧ PowLaid w ∧ 2 < sb ∧ 3 < sb ∧ 1 < sb
section
variable {w w':World} {sb:Nat}
theorem LaidS.start (he:ErrsLaid w) (hp:PowLaid w):LaidS w.heap.size w:=⟨he,hp,he.2.2.1,he.2.2.2,pow_lt hp⟩
theorem LaidS.keep (h:LaidS sb w) (hs:w.heap.size ≤ w'.heap.size) (hk:∀ b,b < sb → w'.heap[b]? = w.heap[b]?):LaidS sb w':=
 ⟨h.1.keep hs (World.cell?_of_block (hk _ h.2.2.1)) (World.cell?_of_block (hk _ h.2.2.2.1)),pow_block h.2.1 (hk _ h.2.2.2.2),h.2.2⟩
theorem LaidS.grown (h:LaidS sb w) (hlt:sb < w.heap.size) (hg:w.grownBy w' (some sb)):LaidS sb w':=h.keep hg.size fun b hb=>hg.block b (by omega) (by simp; omega)
theorem LaidS.below {B:Nat} (h:LaidS sb w) (hb:Below B w w') (hB:sb ≤ B):LaidS sb w':=h.keep hb.size fun b hlt=>hb.block b (by omega)
theorem LaidS.errs (h:LaidS sb w):ErrsLaid w:=h.1
theorem LaidS.pow (h:LaidS sb w):PowLaid w:=h.2.1
end
def AtoiO (s:ByteArray) (w:World) (e:Ending) (w':World):Prop:=∃ n ev,okI n ∧ AtoiP s n ev ∧ e = .returned (.tuple #[.int .i64 n,ev]) ∧ Below w.heap.size w w'
theorem atoi_o (s:ByteArray) (w:World) (hs:s.size ≤ 140737488355328) (hl:ErrsLaid w):Calls Tryz.prog 40 #[.string s] w (AtoiO s w):=by
 obtain ⟨⟨t1,p1,h1⟩,⟨t2,p2,h2⟩,_,_⟩:=hl
 cases h:Lib.atoiAll s.data.toList
 case ok v=>
  refine (Any.strconv_Atoi_ok Tryz.laysC172 s (by omega) v h w).mono ?_
  rintro e w' ⟨he,hw⟩
  refine ⟨v,_,atoi_bd h,.inl ⟨h,rfl⟩,he,?_⟩
  rcases hw with rfl | ⟨t,rfl⟩
  ·exact Below.refl _ _
  ·exact Joins.below_bytesWorld _ _ _ _ (Nat.le_refl _)
 ·refine (Any.strconv_Atoi_syntax Tryz.laysC172 s (by omega) h _ w h1 (.inr ⟨_,_,rfl⟩)).mono ?_
  rintro e w' ⟨N,he,_,_,hb⟩
  exact ⟨_,_,by unfold okI; omega,.inr ⟨(fun v hv=>by rw [h] at hv; cases hv),_,_,rfl⟩,he,hb⟩
 ·refine (Any.strconv_Atoi_range Tryz.laysC172 s (by omega) h _ w h2 (.inr ⟨_,_,rfl⟩)).mono ?_
  rintro e w' ⟨N,he,_,_,hb⟩
  exact ⟨_,_,by unfold okI Lib.atoiSat; split <;> omega,.inr ⟨(fun v hv=>by rw [h] at hv; cases hv),_,_,rfl⟩,he,hb⟩
theorem itoa_sz (n:Int) (h:okI n):(⟨(Lib.itoa n).toArray⟩:ByteArray).size ≤ 21:=by
 have:=Lib.itoa_length_le n h.1 h.2
 show (Lib.itoa n).toArray.size ≤ 21
 simpa using this
end
section
open Go.RowKit
def digB (c:UInt8):Bool:=decide (48 ≤ c.toNat) && decide (c.toNat ≤ 57)
def capB (c:UInt8):Bool:=decide (65 ≤ c.toNat) && decide (c.toNat ≤ 90)
def numK (s:ByteArray):Nat:=(s.data.toList.takeWhile digB).length
def numB (s:ByteArray):Bool:=
 (s.data.toList.drop (numK s)).all capB && decide (s.size - numK s ≤ 5) && !Lib.hasSuffix (s.data.toList.drop (numK s)) [65]
  && (if s.data.toList.take (numK s) = [48] then decide (numK s < s.size) else decide (1 ≤ numK s) && decide (numK s ≤ 3) && decide (s.data.toList.head? ≠ some 48))
theorem takeWhile_len {p:UInt8 → Bool} {l:List UInt8} {k:Nat} (h:∀ x ∈ l.take k,p x = true) (hk:k ≤ l.length) (he:∀ hlt:k < l.length,p l[k] = false):(l.takeWhile p).length = k:=by
 induction l generalizing k with
 | nil=>simp at hk; simp [hk]
 | cons y l ih=>
  cases k with
  | zero=>have:=he (by simp); simp at this; simp [this]
  | succ k=>
   have h0:p y = true:=h y (by simp)
   have:=ih (k:=k) (fun x hx=>h x (by simp [hx])) (by simpa using hk) (fun hlt=>he (Nat.succ_lt_succ hlt))
   simp [h0,this]
theorem numK_eq {s:ByteArray} {k:Nat} (h:∀ x ∈ s.data.toList.take k,digB x = true) (hk:k ≤ s.size) (he:∀ hlt:k < s.size,digB s[k] = false):numK s = k:=
 takeWhile_len h (by simpa using hk) (fun hlt=>he (by simpa using hlt))
theorem extract_list (s:ByteArray) (a b:Nat):(s.extract a b).data.toList = (s.data.toList.drop a).take (b - a):=by
 simp
theorem extract_end (s:ByteArray) (k:Nat):(s.extract k s.size).data.toList = s.data.toList.drop k:=by
 rw [extract_list,List.take_of_length_le]
 simp
theorem numB_size {s:ByteArray} (h:numB s = true):s.size ≤ 8:=by
 simp only [numB,Bool.and_eq_true,decide_eq_true_eq] at h
 obtain ⟨⟨⟨_,h1⟩,_⟩,h2⟩:=h
 split at h2
 ·rename_i h3
  have:=congrArg List.length h3
  simp at this; omega
 ·simp only [Bool.and_eq_true,decide_eq_true_eq] at h2; omega
end
section
open Go.RowKit
def wordsA:List UInt8 → List UInt8 → List (List UInt8)
 | [],cur=>if cur = [] then [] else [cur]
 | c :: l,cur=>if c = 32 then (if cur = [] then wordsA l [] else cur :: wordsA l []) else wordsA l (cur ++ [c])
def joinW:List (List UInt8) → List UInt8
 | []=>[]
 | [w]=>w
 | w :: v :: r=>w ++ 32 :: joinW (v :: r)
def okA:Bool → List UInt8 → Bool
 | prev,[]=>!prev
 | prev,c :: l=>if c = 32 then (if prev then false else okA true l) else okA false l
theorem joinW_cons (w:List UInt8) (r:List (List UInt8)):joinW (w :: r) = if r = [] then w else w ++ 32 :: joinW r:=by
 cases r with
 | nil=>rfl
 | cons v r=>rfl
theorem wordsA_ne (l:List UInt8):∀ cur,cur ≠ [] → wordsA l cur ≠ []:=by
 induction l with
 | nil=>intro cur h; simp [wordsA,h]
 | cons c l ih=>
  intro cur h
  unfold wordsA
  by_cases hc:c = 32
  ·rw [if_pos hc,if_neg h]; simp
  ·rw [if_neg hc]; exact ih _ (by simp)
theorem join_len (l:List UInt8):∀ cur,(joinW (wordsA l cur)).length ≤ cur.length + l.length:=by
 induction l with
 | nil=>intro cur; by_cases h:cur = [] <;> simp [wordsA,h,joinW]
 | cons c l ih=>
  intro cur
  unfold wordsA
  by_cases hc:c = 32
  ·rw [if_pos hc]
   have h1:=ih []
   by_cases h:cur = []
   ·rw [if_pos h]; simp at h1 ⊢; omega
   ·rw [if_neg h,joinW_cons]
    split
    ·simp
    ·simp at h1 ⊢; omega
  ·rw [if_neg hc]
   have:=ih (cur ++ [c])
   simp at this ⊢; omega
theorem join_ok (l:List UInt8):(∀ cur,cur ≠ [] → (joinW (wordsA l cur) = cur ++ l ↔ okA false l = true)) ∧ ((wordsA l [] ≠ [] ∧ joinW (wordsA l []) = l) ↔ okA true l = true):=by
 induction l with
 | nil=>
  refine ⟨fun cur h=>?_,?_⟩
  ·simp [wordsA,h,joinW,okA]
  ·simp [wordsA,okA]
 | cons c l ih=>
  obtain ⟨ihA,ihB⟩:=ih
  refine ⟨fun cur h=>?_,?_⟩
  ·unfold wordsA okA
   by_cases hc:c = 32
   ·rw [if_pos hc,if_neg h,if_pos hc,joinW_cons]
    simp only [Bool.false_eq_true,if_false]
    rw [← ihB]
    by_cases hw:wordsA l [] = []
    ·rw [if_pos hw]; simp [hw]
    ·rw [if_neg hw,hc]
     simp [hw]
   ·rw [if_neg hc,if_neg hc,← ihA (cur ++ [c]) (by simp)]; simp
  ·unfold wordsA okA
   by_cases hc:c = 32
   ·rw [if_pos hc,if_pos rfl,if_pos hc]
    simp only [if_true,Bool.false_eq_true,iff_false,not_and]
    intro _ h
    have:=join_len l []
    rw [h] at this
    simp at this
    omega
   ·rw [if_neg hc,if_neg hc,List.nil_append,← ihA [c] (by simp)]
    constructor
    ·rintro ⟨_,h⟩; exact h
    ·intro h; exact ⟨wordsA_ne l _ (by simp),h⟩
def plainL (l:List UInt8):Bool:=decide (l = []) || okA true l
theorem plain_join (l:List UInt8):joinW (wordsA l []) = l ↔ plainL l = true:=by
 unfold plainL
 cases l with
 | nil=>simp [wordsA,joinW]
 | cons c l=>
  have h:=(join_ok (c :: l)).2
  simp only [Bool.or_eq_true,decide_eq_true_eq,reduceCtorEq,false_or]
  rw [← h]
  constructor
  ·intro he
   refine ⟨fun hw=>?_,he⟩
   rw [hw] at he; cases he
  ·exact fun h=>h.2
def dblB:List UInt8 → Bool
 | []=>false
 | [_]=>false
 | a :: b :: l=>(a == 32 && b == 32) || dblB (b :: l)
def sufB:List UInt8 → Bool
 | []=>false
 | [a]=>a == 32
 | _ :: b :: l=>sufB (b :: l)
theorem okA_prog (l:List UInt8):∀ prev c,okA prev (c :: l) = (!dblB (c :: l) && !(prev && c == 32) && !sufB (c :: l)):=by
 induction l with
 | nil=>
  intro prev c
  by_cases hc:c = 32
  ·cases prev <;> simp [okA,dblB,sufB,hc]
  ·cases prev <;> simp [okA,dblB,sufB,hc]
 | cons d l ih=>
  intro prev c
  by_cases hc:c = 32
  ·cases prev
   ·rw [okA,if_pos hc]
    simp only [Bool.false_eq_true,if_false]
    rw [ih true d]
    have e:(c == 32) = true:=by rw [hc]; rfl
    simp only [dblB,sufB,e,Bool.true_and,Bool.false_and,Bool.not_false,Bool.and_true]
    generalize dblB (d :: l) = x
    generalize sufB (d :: l) = y
    generalize (d == 32) = z
    cases x <;> cases y <;> cases z <;> rfl
   ·have e:(c == 32) = true:=by rw [hc]; rfl
    simp [okA,hc]
  ·rw [okA,if_neg hc,ih false d]
   have e:(c == 32) = false:=beq_eq_false_iff_ne.2 hc
   simp only [dblB,sufB,e,Bool.false_and,Bool.and_false,Bool.not_false,Bool.and_true,Bool.false_or]
theorem contains_cons (b:UInt8) (l sub:List UInt8):Lib.contains (b :: l) sub = (sub.isPrefixOf (b :: l) || Lib.contains l sub):=by
 unfold Lib.contains
 have hg:=Lib.index_ge l sub
 rw [Lib.index]
 cases h:sub.isPrefixOf (b :: l) with
 | true=>simp
 | false=>
  simp only [Bool.false_eq_true,if_false,Bool.false_or]
  by_cases h1:Lib.index l sub = -1
  ·rw [h1]; rfl
  ·rw [if_neg (by simpa using h1),decide_eq_decide]; omega
theorem beqC (a b:UInt8):(a == b) = (b == a):=by
 rw [show (a == b) = decide (a = b) from rfl,show (b == a) = decide (b = a) from rfl,decide_eq_decide]
 exact ⟨fun h=>h.symm,fun h=>h.symm⟩
theorem dbl_contains (l:List UInt8):Lib.contains l [32,32] = dblB l:=by
 induction l with
 | nil=>rfl
 | cons a l ih=>
  rw [contains_cons,ih]
  cases l with
  | nil=>simp [List.isPrefixOf,dblB]
  | cons b l=>
   simp only [List.isPrefixOf,dblB,Bool.and_true]
   have e1:((32:UInt8) == a) = (a == 32):=beqC 32 a
   have e2:((32:UInt8) == b) = (b == 32):=beqC 32 b
   rw [e1,e2]
theorem suf_has (l:List UInt8):Lib.hasSuffix l [32] = sufB l:=by
 unfold Lib.hasSuffix
 rw [Bool.eq_iff_iff,List.isSuffixOf_iff_suffix]
 induction l with
 | nil=>simp [sufB]
 | cons a l ih=>
  rw [List.suffix_cons_iff,ih]
  cases l with
  | nil=>simp [sufB]; exact eq_comm
  | cons b l=>simp [sufB]
theorem pre_has (l:List UInt8):Lib.hasPrefix l [32] = decide (l.head? = some 32):=by
 unfold Lib.hasPrefix
 cases l with
 | nil=>rfl
 | cons a l=>
  show ((32:UInt8) == a && List.isPrefixOf [] l) = _
  rw [show List.isPrefixOf ([]:List UInt8) l = true by cases l <;> rfl,Bool.and_true,List.head?_cons]
  rw [show ((32:UInt8) == a) = decide ((32:UInt8) = a) from rfl,decide_eq_decide]
  constructor
  ·intro h; rw [h]
  ·intro h; injection h with h; exact h.symm
theorem plain_prog (l:List UInt8):plainL l = (!Lib.hasPrefix l [32] && !Lib.hasSuffix l [32] && !Lib.contains l [32,32]):=by
 rw [dbl_contains,suf_has,pre_has]
 unfold plainL
 cases l with
 | nil=>rfl
 | cons c l=>
  rw [okA_prog]
  simp only [reduceCtorEq,decide_false,Bool.false_or,List.head?_cons,Option.some.injEq,Bool.true_and]
  have e:(c == 32) = decide (c = 32):=rfl
  generalize dblB (c :: l) = x
  generalize sufB (c :: l) = y
  by_cases hc:c = 32
  ·simp [hc]
  ·have e:(c == 32) = false:=beq_eq_false_iff_ne.2 hc
   simp only [e,hc,decide_false]; cases x <;> cases y <;> rfl
def prB (c:UInt8):Bool:=decide (32 ≤ c.toNat) && decide (c.toNat ≤ 126)
def plainB (s:ByteArray):Bool:=allB prB s && plainL s.data.toList
end
section
open Go.RowKit
theorem numB_bytes {s:ByteArray} (h:numB s = true):∀ c ∈ s.data.toList,digB c = true ∨ capB c = true:=by
 simp only [numB,Bool.and_eq_true] at h
 obtain ⟨⟨⟨h1,_⟩,_⟩,_⟩:=h
 intro c hc
 rw [← List.take_append_drop (numK s) s.data.toList,List.mem_append] at hc
 rcases hc with hc | hc
 ·left
  have ht:s.data.toList.take (numK s) = s.data.toList.takeWhile digB:=by
   unfold numK
   conv=>lhs; rw [← List.takeWhile_append_dropWhile (p:=digB) (l:=s.data.toList)]
   rw [List.takeWhile_append_dropWhile,← List.prefix_iff_eq_take.1 (List.takeWhile_prefix digB)]
  rw [ht] at hc
  exact (List.all_eq_true.1 (List.all_takeWhile (p:=digB) (l:=s.data.toList))) c hc
 ·right; exact (List.all_eq_true.1 h1) c hc
theorem empty_iff (s:ByteArray):s.toList.isEmpty = true ↔ s = ⟨#[]⟩:=by
 rw [ByteArray.toList_eq]
 constructor
 ·intro h; exact ba_ext (by simpa using h)
 ·rintro rfl; rfl
end
section
open Go.RowKit
end
section
open Go.RowKit
end
section
open Go.RowKit
instance memBA (s:ByteArray) (a:List ByteArray):Decidable (s ∈ a):=decidable_of_iff (∃ x ∈ a,x = s) (by simp)
end
section
open Go.RowKit
end
section
open Go.RowKit
def chopA (wd:Nat) (w:List UInt8):List (List UInt8):=
 if h:0 < wd ∧ wd < w.length then w.take wd :: chopA wd (w.drop wd) else []
termination_by w.length
decreasing_by rw [List.length_drop]; omega
def chopZ (wd:Nat) (w:List UInt8):List UInt8:=
 if h:0 < wd ∧ wd < w.length then chopZ wd (w.drop wd) else w
termination_by w.length
decreasing_by rw [List.length_drop]; omega
theorem chopA_more {wd:Nat} {w:List UInt8} (h0:0 < wd) (h:wd < w.length):chopA wd w = w.take wd :: chopA wd (w.drop wd):=by rw [chopA,dif_pos ⟨h0,h⟩]
theorem chopA_done {wd:Nat} {w:List UInt8} (h:¬ wd < w.length):chopA wd w = []:=by rw [chopA,dif_neg (fun e=>h e.2)]
theorem chopZ_more {wd:Nat} {w:List UInt8} (h0:0 < wd) (h:wd < w.length):chopZ wd w = chopZ wd (w.drop wd):=by rw [chopZ,dif_pos ⟨h0,h⟩]
theorem chopZ_done {wd:Nat} {w:List UInt8} (h:¬ wd < w.length):chopZ wd w = w:=by rw [chopZ,dif_neg (fun e=>h e.2)]
theorem chopZ_pos {wd:Nat} (h0:0 < wd):∀ (n:Nat) (w:List UInt8),w.length ≤ n → w ≠ [] → chopZ wd w ≠ []
 | 0,w,hl,hw=>absurd (List.eq_nil_of_length_eq_zero (by omega)) hw
 | n + 1,w,hl,hw=>by
  by_cases h:wd < w.length
  ·rw [chopZ_more h0 h]
   refine chopZ_pos h0 n _ (by rw [List.length_drop]; omega) (fun e=>?_)
   have:=congrArg List.length e
   rw [List.length_drop] at this
   simp at this
   omega
  ·rw [chopZ_done h]; exact hw
theorem chopA_len {wd:Nat} (h0:0 < wd):∀ (n:Nat) (w:List UInt8),w.length ≤ n → (chopA wd w).length ≤ w.length
 | 0,w,hl=>by rw [chopA_done (by omega)]; simp
 | n + 1,w,hl=>by
  by_cases h:wd < w.length
  ·have ih:=chopA_len h0 n (w.drop wd) (by rw [List.length_drop]; omega)
   rw [chopA_more h0 h,List.length_cons]
   rw [List.length_drop] at ih
   omega
  ·rw [chopA_done h]; simp
structure Wst where
 out:List (List UInt8)
 cur:List UInt8
def wrapW (wd:Nat) (st:Wst) (w:List UInt8):Wst:=
 if w = [] then st
 else if ¬ st.cur = [] ∧ st.cur.length + 1 + w.length ≤ wd then ⟨st.out,st.cur ++ 32 :: w⟩
 else ⟨st.out ++ (if st.cur = [] then [] else [st.cur]) ++ chopA wd w,chopZ wd w⟩
def Wst.all (st:Wst):List (List UInt8):=st.out ++ (if st.cur = [] then [] else [st.cur])
def Wst.ok (st:Wst):Prop:=st.cur = [] → st.out = []
def wrapL (wd:Nat) (ws:List (List UInt8)):Wst:=ws.foldl (wrapW wd) ⟨[],[]⟩
def mkB (l:List UInt8):ByteArray:=⟨l.toArray⟩
def wrapT (s:ByteArray) (wd:Nat):List ByteArray:=(wrapL wd (wordsA s.data.toList [])).all.map mkB
theorem wrapL_snoc (wd:Nat) (ws:List (List UInt8)) (w:List UInt8):wrapL wd (ws ++ [w]) = wrapW wd (wrapL wd ws) w:=by simp [wrapL]
theorem wrapW_ok {wd:Nat} (h0:0 < wd) {st:Wst} (h:st.ok) (w:List UInt8):(wrapW wd st w).ok:=by
 unfold wrapW
 split
 ·exact h
 ·rename_i hw
  split
  ·intro e; simp at e
  ·intro e
   exact absurd e (chopZ_pos h0 w.length w (Nat.le_refl _) hw)
theorem wrapL_ok {wd:Nat} (h0:0 < wd) (ws:List (List UInt8)):(wrapL wd ws).ok:=by
 have key:∀ (ws:List (List UInt8)) (st:Wst),st.ok → (ws.foldl (wrapW wd) st).ok:=by
  intro ws
  induction ws with
  | nil=>intro st h; exact h
  | cons w r ih=>intro st h; exact ih _ (wrapW_ok h0 h w)
 exact key ws _ (fun _=>rfl)
theorem all_nil {st:Wst} (h:st.ok):st.all = [] ↔ st.cur = []:=by
 unfold Wst.all
 by_cases hc:st.cur = []
 ·rw [h hc,if_pos hc]; simp [hc]
 ·rw [if_neg hc]; simp [hc]
theorem all_fits {wd:Nat} {st:Wst} {w:List UInt8} (hw:¬ w = []) (hc:¬ st.cur = []) (hf:st.cur.length + 1 + w.length ≤ wd):(wrapW wd st w).all = st.all.modify (st.all.length - 1) (fun l=>l ++ 32 :: w) ∧ st.all[st.all.length - 1]? = some st.cur:=by
 unfold wrapW
 rw [if_neg hw,if_pos ⟨hc,hf⟩]
 unfold Wst.all
 rw [if_neg hc,if_neg (by simp)]
 refine ⟨?_,by simp⟩
 have hl:(st.out ++ [st.cur]).length - 1 = st.out.length:=by simp
 rw [hl]
 apply List.ext_getElem?
 intro i
 rw [List.getElem?_modify]
 rcases Nat.lt_trichotomy i st.out.length with h | h | h
 ·rw [List.getElem?_append_left h,List.getElem?_append_left h]
  cases st.out[i]? <;> simp [show ¬ st.out.length = i by omega]
 ·subst h
  simp
 ·rw [List.getElem?_eq_none (by simp; omega),List.getElem?_eq_none (by simp; omega)]
  rfl
theorem all_new {wd:Nat} (h0:0 < wd) {st:Wst} {w:List UInt8} (hw:¬ w = []) (hf:st.cur = [] ∨ ¬ st.cur.length + 1 + w.length ≤ wd):(wrapW wd st w).all = st.all ++ chopA wd w ++ [chopZ wd w]:=by
 unfold wrapW
 rw [if_neg hw,if_neg (fun h=>hf.elim h.1 (fun h2=>h2 h.2))]
 unfold Wst.all
 dsimp only
 rw [if_neg (chopZ_pos h0 w.length w (Nat.le_refl _) hw)]
theorem wrapL_len {wd:Nat} (h0:0 < wd) (ws:List (List UInt8)):(wrapL wd ws).all.length ≤ (ws.map fun w=>w.length + 1).sum:=by
 have key:∀ (ws:List (List UInt8)) (st:Wst),(ws.foldl (wrapW wd) st).all.length ≤ st.all.length + (ws.map fun w=>w.length + 1).sum:=by
  intro ws
  induction ws with
  | nil=>intro st; simp
  | cons w r ih=>
   intro st
   have h1:=ih (wrapW wd st w)
   have h2:(wrapW wd st w).all.length ≤ st.all.length + (w.length + 1):=by
    by_cases hw:w = []
    ·unfold wrapW; rw [if_pos hw]; omega
    ·by_cases hc:st.cur = [] ∨ ¬ st.cur.length + 1 + w.length ≤ wd
     ·rw [all_new h0 hw hc]
      have:=chopA_len h0 w.length w (Nat.le_refl _)
      simp
      omega
     ·have hc1:¬ st.cur = []:=fun e=>hc (.inl e)
      have hc2:st.cur.length + 1 + w.length ≤ wd:=Classical.byContradiction fun e=>hc (.inr e)
      rw [(all_fits hw hc1 hc2).1,List.length_modify]
      omega
   rw [List.foldl_cons,List.map_cons,List.sum_cons]
   omega
 have h1:=key ws ⟨[],[]⟩
 have h2:(⟨[],[]⟩:Wst).all.length = 0:=rfl
 unfold wrapL
 omega
theorem wordsA_ne2 (l:List UInt8):∀ cur w,w ∈ wordsA l cur → ¬ w = []:=by
 induction l with
 | nil=>
  intro cur w h
  unfold wordsA at h
  split at h
  ·cases h
  ·rw [List.mem_singleton] at h; subst h; assumption
 | cons c l ih=>
  intro cur w h
  unfold wordsA at h
  split at h
  ·split at h
   ·exact ih _ _ h
   ·rcases List.mem_cons.1 h with rfl | h
    ·assumption
    ·exact ih _ _ h
  ·exact ih _ _ h
theorem wordsA_sum (l:List UInt8):∀ cur,((wordsA l cur).map fun w=>w.length + 1).sum ≤ cur.length + l.length + 1:=by
 induction l with
 | nil=>
  intro cur
  unfold wordsA
  split
  ·simp
  ·simp
 | cons c l ih=>
  intro cur
  unfold wordsA
  split
  ·split
   ·have:=ih []; simp at this ⊢; omega
   ·have:=ih []; simp at this ⊢; omega
  ·have:=ih (cur ++ [c]); simp at this ⊢; omega
end
end Go.Proofs.YtaoobkgepcikiaaGreatDoor
