/- Texts packed: Mem, Args, ByB, DecS, Gen, HexS, LpS, LmS, KpS, Map, MapG, QStore, QSegs, QSegs2, QSegs3, QTail, RegIn, Rep, FilesS, Own, Own2, Own3, PushI, RollS, CodeS, CodeV, EvS, GenA, GrowS, AppS, GrowI, OwnMod, GrowB, GrowJ, NestS, GrowM, PushK, OpPush, OwnL, NestG. -/
import Derived.Below
import Derived.Laws.OwnMore
import Derived.Deep.AppendLies
import Derived.Deep.Draws
import Derived.WalkKit
import Derived.WalkSpells
import Derived.WalkLawsBesides
import Derived.Lib.Hide
import Derived.ProofKit
import Derived.OpenShut
import Derived.SizedLaws
import Derived.SliceStrings
import Derived.Lib.ConvBytes
import Derived.Laws.BytesArg
import Derived.Lib.AtoiAll
import Derived.Lib.ItoaNum
import Derived.Test.YtaoobkgepcikiaaGreatDoorRows
import Derived.BigQuiet
import Derived.Deep.QuietTactic
import Derived.Maps.OwnOps
import Derived.Maps.OwnSet
import Derived.RegionTactic
import Derived.OrdersHeld
import Derived.Deep.Quiet
import Derived.StillTail
import Derived.Orders
import Derived.Lib.QuietBelow
import Derived.Deep.RegionLaw
import Derived.OrdersIn
import Derived.RangeFuncCalls
import Derived.OwnWalkIn
import Derived.Lib.FieldsP
import Derived.Lib.Split
import Derived.Lib.SplitLaws
import Derived.Lib.Join
import Derived.Lib.Repeat
import Derived.OneCell
import Derived.Room.AppendOnto
namespace Go.Proofs.YtaoobkgepcikiaaGreatDoor
set_option linter.unusedVariables false
section
open Go.RowKit
def Rs {α:Type} (w:World) (lo hi size:Nat) (enc:α → List Value) (A:Option Addr) (l:List α):Prop:=
 0 < l.length → ∃ b off,A = some ⟨b,off,none⟩ ∧ lo ≤ b ∧ b < hi ∧ ∀ (k:Nat) (x:α),l[k]? = some x → ∀ (j:Nat) (u:Value),(enc x)[j]? = some u → w.cell? ⟨b,off + k * size + j,none⟩ = some u
section
variable {α:Type} {w w':World} {lo lo' hi hi' B size:Nat} {enc:α → List Value} {A:Option Addr} {l:List α}
theorem Rs.nil_:Rs w lo hi size enc A ([]:List α):=fun h=>absurd h (by simp)
theorem Rs.keep (h:Rs w lo hi size enc A l) (hk:∀ p:Addr,lo ≤ p.block → p.block < hi → w'.cell? p = w.cell? p):Rs w' lo hi size enc A l:=
 fun hn=>by
  obtain ⟨b,off,e,hb0,hb,hc⟩:=h hn
  exact ⟨b,off,e,hb0,hb,fun k x hx j u hu=>(hk _ hb0 hb).trans (hc k x hx j u hu)⟩
theorem Rs.more (h:Rs w lo hi size enc A l) (hl:lo' ≤ lo) (hB:hi ≤ hi'):Rs w lo' hi' size enc A l:=
 fun hn=>by
  obtain ⟨b,off,e,hb0,hb,hc⟩:=h hn
  exact ⟨b,off,e,by omega,by omega,hc⟩
theorem Rs.alloc (h:Rs w lo hi size enc A l) (hB:hi ≤ w.heap.size) (o:Obj):Rs (w.alloc o) lo hi size enc A l:=h.keep fun p _ hp=>World.cell?_alloc_lt w o p (by omega)
theorem Rs.setCell (h:Rs w lo hi size enc A l) {p:Addr} (hB:hi ≤ p.block ∨ p.block < lo) (u:Value):Rs (w.setCell p u) lo hi size enc A l:=
 h.keep fun q hq hq'=>World.cell?_setCell_other w p q u (fun e=>by subst e; omega)
theorem Rs.grown (h:Rs w lo hi size enc A l) {g:Nat} (hg:w.grownBy w' (some g)) (hB:hi ≤ w.heap.size) (hne:hi ≤ g ∨ g < lo):Rs w' lo hi size enc A l:=
 h.keep fun p hq hq'=>World.cell?_of_block (hg.block p.block (by omega) (by simp; omega))
theorem Rs.at_ (h:Rs w lo hi size enc A l) {k:Nat} (hk:k < l.length) :
  ∃ b off,A = some ⟨b,off,none⟩ ∧ lo ≤ b ∧ b < hi ∧ ∀ (j:Nat) (u:Value),(enc l[k])[j]? = some u → w.cell? ⟨b,off + k * size + j,none⟩ = some u:=by
 obtain ⟨b,off,e,hb0,hb,hc⟩:=h (by omega)
 exact ⟨b,off,e,hb0,hb,hc k _ (List.getElem?_eq_getElem hk)⟩
theorem Rs.at1 {enc1:α → Value} (h:Rs w lo hi 1 (fun x=>[enc1 x]) A l) {k:Nat} (hk:k < l.length) :
  ∃ b off,A = some ⟨b,off,none⟩ ∧ lo ≤ b ∧ b < hi ∧ w.cell? ⟨b,off + k,none⟩ = some (enc1 l[k]):=by
 obtain ⟨b,off,e,hb0,hb,hc⟩:=h.at_ hk
 exact ⟨b,off,e,hb0,hb,by simpa using hc 0 _ rfl⟩
end
def RetInt (p:Int → Prop) (w:World) (e:Ending) (w':World):Prop:=∃ v:Int,p v ∧ e = .returned (.int .i64 v) ∧ w = w'
def intc (x:Int):List Value:=[.int .i64 x]
def strc (x:ByteArray):List Value:=[.string x]
def okI (x:Int):Prop:=-9223372036854775808 ≤ x ∧ x ≤ 9223372036854775807
def idxV:Option Nat → Int
 | some k=>k
 | none=>-1
theorem findIdx_at {α:Type} {p:α → Bool} {l:List α} {k:Nat} (h:∀ x ∈ l.take k,p x = false) (hk:k < l.length) (hp:p l[k] = true):l.findIdx? p = some k:=by
 induction l generalizing k with
 | nil=>simp at hk
 | cons y l ih=>
  cases k with
  | zero=>simp at hp; simp [List.findIdx?_cons,hp]
  | succ k=>
   have h0:p y = false:=h y (by simp)
   have:=ih (k:=k) (fun x hx=>h x (by simp [hx])) (by simpa using hk) (by simpa using hp)
   simp [List.findIdx?_cons,h0,this]
theorem findIdx_no {α:Type} {p:α → Bool} {l:List α} (h:∀ x ∈ l,p x = false):l.findIdx? p = none:=by
 rw [List.findIdx?_eq_none_iff]; simpa using h
theorem take_next {α:Type} {q:α → Prop} {l:List α} {k:Nat} (hk:k < l.length) (h:∀ x ∈ l.take k,q x) (hq:q l[k]):∀ x ∈ l.take (k + 1),q x:=by
 rw [List.take_succ_eq_append_getElem hk]
 intro x hx
 rcases List.mem_append.1 hx with hx | hx
 ·exact h x hx
 ·simp at hx; rw [hx]; exact hq
theorem take_all {α:Type} {q:α → Prop} {l:List α} {k:Nat} (hk:¬ k < l.length) (h:∀ x ∈ l.take k,q x):∀ x ∈ l,q x:=by
 rw [List.take_of_length_le (by omega)] at h; exact h
theorem intNum {k:Nat}:Value.int .i64 ((k:Int) + 1) = .int .i64 ((k + 1:Nat):Int):=by simp
theorem beq_ba (a b:ByteArray):(a == b) = decide (a = b):=by
 rcases a with ⟨a⟩; rcases b with ⟨b⟩
 show (a == b) = _
 rw [Bool.eq_iff_iff]; simp
theorem beqS (a b:ByteArray):(a.toList == b.toList) = decide (a = b):=by rw [← beq_toListBytes,beq_ba]
theorem ret_bool {a b:Bool} (h:a = b):Ending.returned (.bool a) = .returned (.bool b):=by rw [h]
theorem ret_int {k:IntKind} {a b:Int} (h:a = b):Ending.returned (.int k a) = .returned (.int k b):=by rw [h]
theorem bcell {B:Nat} {W w1:World} (hb:Below B W w1):(∀ b o,b < B → w1.cell? ⟨b,o,none⟩ = W.cell? ⟨b,o,none⟩) ∧ (∀ b o,b < B → w1.frozen? ⟨b,o,none⟩ = W.frozen? ⟨b,o,none⟩):=
 ⟨fun b o h=>hb.cell (p:=⟨b,o,none⟩) h,fun b o h=>hb.frozen (p:=⟨b,o,none⟩) h⟩
def allB (p:UInt8 → Bool) (s:ByteArray):Bool:=s.data.toList.all p
theorem allB_no {p:UInt8 → Bool} {s:ByteArray} {k:Nat} (hk:k < s.size) (h:p s[k] = false):allB p s = false:=by
 unfold allB
 rw [List.all_eq_false]
 exact ⟨s[k],by rw [show s[k] = s.data.toList[k]'(by simpa using hk) from rfl]; exact List.getElem_mem _,by simp [h]⟩
theorem allB_yes {p:UInt8 → Bool} {s:ByteArray} {k:Nat} (hk:¬ k < s.size) (h:∀ x ∈ s.data.toList.take k,p x = true):allB p s = true:=by
 unfold allB
 rw [List.all_eq_true]
 exact take_all (by simpa using hk) h
theorem allB_next {p:UInt8 → Bool} {s:ByteArray} {k:Nat} (hk:k < s.size) (h:∀ x ∈ s.data.toList.take k,p x = true) (hp:p s[k] = true):∀ x ∈ s.data.toList.take (k + 1),p x = true:=
 take_next (q:=fun x=>p x = true) (by simpa using hk) h hp
theorem below_drewN {B:Nat} {a w:World} (h:Below B a w) (n:Nat):Below B a (w.drewN n):=⟨h.os,h.tape,h.output,h.size,h.block⟩
theorem u8_eq {p q:UInt8 → Bool} (h:((List.range 256).all fun n=>p (UInt8.ofNat n) == q (UInt8.ofNat n)) = true):∀ c,p c = q c:=by
 intro c
 rw [List.all_eq_true] at h
 have:=h c.toNat (List.mem_range.2 c.toNat_lt)
 simpa using this
theorem allB_congr {p q:UInt8 → Bool} (h:((List.range 256).all fun n=>p (UInt8.ofNat n) == q (UInt8.ofNat n)) = true) (s:ByteArray):allB p s = allB q s:=by
 rw [show p = q from funext (u8_eq h)]
theorem idxV_any {α:Type} (p:α → Bool) (l:List α):decide (0 ≤ idxV (l.findIdx? p)) = l.any p:=by
 cases h:l.findIdx? p with
 | none=>
  rw [List.findIdx?_eq_none_iff] at h
  have:l.any p = false:=by rw [List.any_eq_false]; intro x hx; simp [h x hx]
  rw [this]; rfl
 | some k=>
  rw [List.findIdx?_eq_some_iff_getElem] at h
  obtain ⟨hk,hp,_⟩:=h
  have:l.any p = true:=by rw [List.any_eq_true]; exact ⟨_,List.getElem_mem hk,hp⟩
  rw [this]
  simp [idxV]
end
section
open Go.ChangeShapes Go.WideShapes Go.ChangeAt Go.RowKit
section
variable {H:Type} {enc:TypeId × Value → H} {P:Program} {W:World}
theorem argInts {t e:TypeId} {a:Option Addr} {len cap:Nat} {d:DataW H} {p:List MemPlace} {ts:List TypeId} {ds:List (DataW H)} {j:Nat} (ht:P.underlying t = some (.slice e)) (he:P.underlying e = some (.int .i64)) (hc:P.cellsOf e = 1) (hb:P.bytesOf e = 8)
  (h:DataW.Trod enc P W 0 (fun _=>true) true t (.slice a len cap) d p) (hlt:∀ x ∈ p,x.block < W.heap.size) (hw:(DataW.weightsEach P ts ds).all (· ≤ reachBytes) = true) (hj:ts[j]? = some t) (hd:ds[j]? = some d) :
  ∃ l:List Int,l.length = len ∧ Rs W 0 W.heap.size 1 intc a l ∧ l.length ≤ 17592186044416 ∧ ∀ x ∈ l,okI x:=by
 obtain ⟨fuel,hf⟩:=h
 rcases open_ints ht he hc hf with ⟨hcs,_⟩ | ⟨x,l,c,zs,hcs,_,hl,hm,hz,hx,hcell,hwz⟩
 ·simp [Value.cells] at hcs
  obtain ⟨rfl,rfl,rfl⟩:=hcs
  exact ⟨[],rfl,Rs.nil_,by simp,by simp⟩
 ·simp [Value.cells] at hcs
  obtain ⟨rfl,rfl,rfl⟩:=hcs
  simp only [if_true] at hz
  simp only [Prod.mk.injEq] at hx
  obtain ⟨rfl,rfl⟩:=hx
  have hs:=sized_slice hw hj hd ht
  rw [hb] at hs
  have hs2:zs.length * 8 ≤ reachBytes:=by
   have e1:(lits (H:=H) IntKind.i64 (zs.take len)).length + (lits (H:=H) IntKind.i64 (zs.drop len)).length = zs.length:=by simp [lits]; omega
   rw [e1] at hs; exact hs
  have hr:=reachBytes_lt
  have hlen:(zs.take len).length = len:=by simp; omega
  refine ⟨zs.take len,hlen,?_,by omega,fun x hx=>?_⟩
  ·intro hn
   obtain ⟨b,off,rfl,hcc⟩:=ints_at hcell (by simp at hn; omega)
   refine ⟨b,off,rfl,Nat.zero_le _,?_,fun k y hy i u hu=>?_⟩
   ·exact hlt (.cell b off) (by
     unfold MemPlace.row
     simp at hn ⊢
     omega)
   ·cases i with
    | succ i=>simp [intc] at hu
    | zero=>
     simp [intc] at hu
     subst hu
     have hk:k < zs.length ∧ zs[k]? = some y:=by
      rw [List.getElem?_take] at hy
      split at hy
      ·exact ⟨(List.getElem?_eq_some_iff.1 hy).1,hy⟩
      ·cases hy
     have:=hcc k hk.1
     rw [List.getD_eq_getElem?_getD,hk.2] at this
     simpa using this
  ·have:=hwz x (List.mem_of_mem_take hx)
   have hb:=bounds_i64 this
   exact ⟨by omega,by omega⟩
end
end
section
open Go.RowKit
def ByB (w wx:World) (B n:Nat):Prop:=
 w.heap.size ≤ B ∧ Below w.heap.size w wx ∧ ∃ l:List Int,l.length = n ∧ (∀ x ∈ l,0 ≤ x ∧ x < 256) ∧ ∀ j u,l[j]? = some u → wx.cell? ⟨B,j,none⟩ = some (.int .u8 u) ∧ wx.frozen? ⟨B,j,none⟩ = false
theorem frozen_of {w:World} {b n:Nat} {cs:Array Value} {T:TypeId} (h:w.heap[b]? = some (.cells cs T (n,n + 1))) (i:Nat) (hi:i < n):w.frozen? ⟨b,i,none⟩ = false:=by
 simp [World.frozen?,h]; omega
theorem ByB.start (w wx:World) (e:TypeId) (s:ByteArray) (hb:Below w.heap.size w wx):ByB w (Lib.bytesWorld wx e s) wx.heap.size s.size:=by
 refine ⟨hb.size,⟨hb.os,hb.tape,hb.output,by rw [Lib.bytesWorld_size]; have:=hb.size; omega,fun i hi=>(Lib.bytesWorld_at_old wx e s i (by have:=hb.size; omega)).trans (hb.block i hi)⟩,(s.data.toList.map fun c=>(c.toNat:Int)),by simp,?_,fun j u hj=>?_⟩
 ·intro x hx
  obtain ⟨c,_,rfl⟩:=List.mem_map.1 hx
  have:=c.toNat_lt
  omega
 ·have hjs:j < s.size:=by
   have:=(List.getElem?_eq_some_iff.1 hj).1
   simpa using this
  refine ⟨?_,frozen_of (Lib.bytesWorld_at_new wx e s) j ?_⟩
  ·rw [Lib.bytesWorld_cell wx e s j hjs]
   rw [List.getElem?_map] at hj
   have h2:s.data.toList[j]? = some (s.data.toList[j]'(by simpa using hjs)):=List.getElem?_eq_getElem _
   rw [h2] at hj
   simp at hj
   simp [List.getD,hjs,hj]
  ·unfold Lib.bytesCells
   simp
   have:s.data.size = s.size:=rfl
   omega
section
variable {w wx wy:World} {B n:Nat}
theorem ByB.at_ (h:ByB w wx B n) (k:Nat) (hk:k < n):∃ x:Int,0 ≤ x ∧ x < 256 ∧ wx.cell? ⟨B,k,none⟩ = some (.int .u8 x) ∧ wx.frozen? ⟨B,k,none⟩ = false:=by
 obtain ⟨_,_,l,hl,hx,hc⟩:=h
 have hk':k < l.length:=by omega
 have:=hc k _ (List.getElem?_eq_getElem hk')
 exact ⟨_,(hx _ (List.getElem_mem hk')).1,(hx _ (List.getElem_mem hk')).2,this.1,this.2⟩
theorem frozen_setCell (w:World) (p q:Addr) (v:Value):(w.setCell p v).frozen? q = w.frozen? q:=by
 unfold World.frozen? World.setCell
 by_cases h:p.block = q.block
 ·rw [← h]
  simp only [Array.getElem?_modify,if_pos]
  cases w.heap[p.block]? with
  | none=>rfl
  | some o=>cases o <;> rfl
 ·simp only [Array.getElem?_modify,if_neg h]
theorem ByB.set (h:ByB w wx B n) (k:Nat) (hk:k < n) (u:Int) (h0:0 ≤ u) (h1:u < 256):ByB w (wx.setCell ⟨B,k,none⟩ (.int .u8 u)) B n:=by
 obtain ⟨hB,hb,l,hl,hx,hc⟩:=h
 refine ⟨hB,⟨hb.os,hb.tape,hb.output,by simpa [World.setCell] using hb.size,fun i hi=>(Below.heap_setCell wx _ _ i (by show i ≠ B; omega)).trans (hb.block i hi)⟩,l.set k u,by rw [List.length_set]; exact hl,fun x hx'=>?_,fun j y hj=>?_⟩
 ·rcases List.mem_or_eq_of_mem_set hx' with h | h
  ·exact hx x h
  ·subst h; exact ⟨h0,h1⟩
 ·rw [List.getElem?_set] at hj
  by_cases e:k = j
  ·subst e
   rw [if_pos rfl,if_pos (by omega)] at hj
   injection hj with hj
   subst hj
   have:=hc k _ (List.getElem?_eq_getElem (by omega:k < l.length))
   exact ⟨World.cell?_setCell_same wx _ _ this.1,(frozen_setCell wx _ _ _).trans this.2⟩
  ·rw [if_neg e] at hj
   have:=hc j y hj
   exact ⟨(World.cell?_setCell_other wx _ _ _ (fun h=>e (by injection h))).trans this.1,(frozen_setCell wx _ _ _).trans this.2⟩
theorem ByB.str (h:ByB w wx B n) (P:Program) (src dst e:TypeId) (c:Nat) (hs:P.underlying src = some (.slice e)) (he:P.underlying e = some (.int .u8)) (hd:P.underlying dst = some .string) :
  ∃ z:ByteArray,z.size = n ∧ (convert src dst (.slice (some ⟨B,0,none⟩) n c)).run P wx = .ok (.string z) wx:=by
 obtain ⟨hB,hb,l,hl,hx,hc⟩:=h
 refine ⟨_,?_,run_convert_bytes_arg wx src e hs he B 0 n c l hl (fun i hi=>?_) dst hd⟩
 ·rw [strOfNums_size,hl]
 ·have:=(hc i _ (List.getElem?_eq_getElem (by omega:i < l.length))).1
  rw [Nat.zero_add,this]
  simp [List.getD,List.getElem?_eq_getElem (by omega:i < l.length)]
end
end
section
open Go.RowKit
def figC (c:UInt8):Bool:=decide (48 ≤ c.toNat) && decide (c.toNat ≤ 57)
theorem figC_iff {c:UInt8}:figC c = true ↔ 48 ≤ c.toNat ∧ c.toNat ≤ 57:=by simp [figC]
def dval (acc:Nat) (l:List UInt8):Nat:=l.foldl (fun a c=>a * 10 + (c.toNat - 48)) acc
theorem dval_snoc (acc:Nat) (l:List UInt8) (c:UInt8):dval acc (l ++ [c]) = dval acc l * 10 + (c.toNat - 48):=by simp [dval]
theorem dval_cons (acc:Nat) (l:List UInt8) (c:UInt8):dval acc (c :: l) = dval (acc * 10 + (c.toNat - 48)) l:=by unfold dval; rw [List.foldl_cons]
theorem dval_ge (l:List UInt8):∀ acc,acc ≤ dval acc l:=by
 induction l with
 | nil=>intro acc; exact Nat.le_refl _
 | cons c l ih=>intro acc; rw [dval_cons]; have:=ih (acc * 10 + (c.toNat - 48)); omega
theorem parse_ok (l:List UInt8):∀ acc,(∀ c ∈ l,figC c = true) → dval acc l < 18446744073709551616 → Lib.parseUint10 acc l = .ok (dval acc l):=by
 induction l with
 | nil=>intro acc _ _; rfl
 | cons c l ih=>
  intro acc hf h
  rw [dval_cons] at h ⊢
  have hc:=figC_iff.1 (hf c (by simp))
  have hg:=dval_ge l (acc * 10 + (c.toNat - 48))
  rw [Lib.parseUint10,if_pos hc,if_neg (by omega),if_neg (by omega)]
  exact ih _ (fun x hx=>hf x (by simp [hx])) h
theorem ofNat_fig {d:Nat} (h:d < 10):(UInt8.ofNat (48 + d)).toNat = 48 + d:=by
 rw [UInt8.toNat_ofNat']; omega
theorem dec_lt {u:Nat} (h:u < 10):Lib.decDigits u = [UInt8.ofNat (48 + u)]:=by rw [Lib.decDigits,dif_pos h]
theorem dec_ge {u:Nat} (h:¬ u < 10):Lib.decDigits u = Lib.decDigits (u / 10) ++ [UInt8.ofNat (48 + u % 10)]:=by rw [Lib.decDigits,dif_neg h]
theorem dec_fig (u:Nat):∀ c ∈ Lib.decDigits u,figC c = true:=by
 induction u using Nat.strongRecOn with
 | _ u ih=>
  intro c hc
  by_cases h:u < 10
  ·rw [dec_lt h] at hc
   obtain rfl:c = UInt8.ofNat (48 + u):=by simpa using hc
   rw [figC_iff,ofNat_fig h]; omega
  ·rw [dec_ge h,List.mem_append] at hc
   rcases hc with hc | hc
   ·exact ih (u / 10) (by omega) c hc
   ·obtain rfl:c = UInt8.ofNat (48 + u % 10):=by simpa using hc
    rw [figC_iff,ofNat_fig (d:=u % 10) (by omega)]; omega
theorem dec_val (u:Nat):dval 0 (Lib.decDigits u) = u:=by
 induction u using Nat.strongRecOn with
 | _ u ih=>
  by_cases h:u < 10
  ·rw [dec_lt h]
   show 0 * 10 + ((UInt8.ofNat (48 + u)).toNat - 48) = u
   rw [ofNat_fig h]; omega
  ·rw [dec_ge h,dval_snoc,ih (u / 10) (by omega),ofNat_fig (d:=u % 10) (by omega)]; omega
theorem dec_pos (u:Nat):Lib.decDigits u ≠ []:=by
 by_cases h:u < 10
 ·rw [dec_lt h]; simp
 ·rw [dec_ge h]; simp
theorem dec_head (u:Nat) (hu:1 ≤ u):∃ c l,Lib.decDigits u = c :: l ∧ c.toNat ≠ 48:=by
 induction u using Nat.strongRecOn with
 | _ u ih=>
  by_cases h:u < 10
  ·rw [dec_lt h]; exact ⟨_,_,rfl,by rw [ofNat_fig h]; omega⟩
  ·obtain ⟨c,l,hl,hc⟩:=ih (u / 10) (by omega) (by omega)
   rw [dec_ge h,hl]; exact ⟨c,l ++ _,rfl,hc⟩
theorem mag_ok {l:List UInt8} (h:l ≠ []) (hf:∀ c ∈ l,figC c = true) (hb:dval 0 l < 18446744073709551616):Lib.parseMag l = .ok (dval 0 l):=by
 unfold Lib.parseMag
 rw [if_neg h]
 exact parse_ok l 0 hf hb
theorem atoi_digits {l:List UInt8} (h:l ≠ []) (hf:∀ c ∈ l,figC c = true) (hb:dval 0 l < 9223372036854775808):Lib.atoiAll l = .ok (dval 0 l:Int):=by
 have hm:=mag_ok h hf (by omega)
 cases l with
 | nil=>exact absurd rfl h
 | cons c l=>
  have hc:=figC_iff.1 (hf c (by simp))
  unfold Lib.atoiAll
  have n1:¬ (c.toNat = 43 ∨ c.toNat = 45):=by omega
  have n2:¬ c.toNat = 45:=by omega
  simp only [if_neg n1,hm]
  rw [if_neg (by omega),if_neg (by omega),if_neg n2]
theorem atoi_itoa (n:Int) (h:okI n):Lib.atoiAll (Lib.itoa n) = .ok n:=by
 obtain ⟨h0,h1⟩:=h
 unfold Lib.itoa
 by_cases hn:n < 0
 ·rw [if_pos hn]
  unfold Lib.atoiAll
  have hm:=mag_ok (dec_pos n.natAbs) (dec_fig n.natAbs) (by rw [dec_val]; omega)
  rw [dec_val] at hm
  have e45:(45:UInt8).toNat = 45:=rfl
  simp only [e45]
  rw [if_pos (.inr trivial),hm]
  simp only
  rw [if_neg (by simp),if_neg (by omega),if_pos trivial]
  congr 1; omega
 ·rw [if_neg hn,atoi_digits (dec_pos _) (dec_fig _) (by rw [dec_val]; omega),dec_val]
  congr 1; omega
theorem atoi_bd {l:List UInt8} {n:Int} (h:Lib.atoiAll l = .ok n):okI n:=by
 unfold Lib.atoiAll at h
 split at h
 ·cases h
 ·simp only at h
  split at h
  ·cases h
  ·cases h
  ·rename_i u hu
   have hb:=Lib.parseMag_lt hu
   split at h
   ·cases h
   ·split at h
    ·cases h
    ·injection h with h
     subst h
     unfold okI
     split <;> constructor <;> omega
end
section
open Go.RowKit
def Str (w:World) (sb:Nat) (k:Int):Prop:=
 ∃ (A:Option Addr) (c:Nat) (l:List Int),w.heap[sb]? = some (.cells #[.slice A l.length c,.int .i64 k] 25 (0,0)) ∧ 0 ≤ k ∧ Rs w 0 sb 1 intc A l ∧ l.length ≤ 17592186044416 ∧ ∀ x ∈ l,okI x
def Took (sb:Nat) (k d:Int) (p:Value → World → Prop) (w:World) (e:Ending) (w':World):Prop:=
 ∃ (v:Value) (k':Int),e = .returned v ∧ p v w' ∧ k' ≤ k + d ∧ Str w' sb k' ∧ w.grownBy w' (some sb)
theorem tmod_lt (x n:Int) (hn:1 ≤ n):-n < x.tmod n ∧ x.tmod n < n:=by
 have h1:=Int.tmod_lt_of_pos x (show (0:Int) < n by omega)
 have h2:=Int.tmod_lt_of_pos (-x) (show (0:Int) < n by omega)
 rw [Int.neg_tmod] at h2
 omega
set_option maxHeartbeats 400000 in
theorem below_c (x n:Int) (w:World) (hn:1 ≤ n) (hn2:n ≤ 4611686018427387904) :
  Calls Tryz.prog 31 #[.int .i64 x,.int .i64 n] w (RetInt (fun v=>0 ≤ v ∧ v < n) w):=by
 have ht:=tmod_lt x n hn
 have hh:(-9223372036854775808 ≤ x.tmod n + n ∧ x.tmod n + n ≤ 9223372036854775807):=by omega
 have hw:=IntWalk.wrap64_in _ hh
 have H1:=Lib.hid hw; clear hw hh
 have H2:=Lib.hid ht; clear ht
 go_enter Tryz.func31,Tryz.ntmps31
 go_wp2
 ·go_ret
  have h:=H2.out
  refine ⟨_,?_,rfl,rfl⟩
  rw [H1.out]; omega
 ·go_ret
  have h:=H2.out
  exact ⟨_,by omega,rfl,rfl⟩
theorem str_cells {w:World} {sb:Nat} {cs:Array Value} {t:TypeId} (h:w.heap[sb]? = some (.cells cs t (0,0))) :
  (∀ i,w.cell? ⟨sb,i,none⟩ = cs[i]?) ∧ (∀ i,w.frozen? ⟨sb,i,none⟩ = false):=by
 refine ⟨fun i=>by simp [World.cell?,h],fun i=>by simp [World.frozen?,h]⟩
theorem str_set {w:World} {sb:Nat} {v u v':Value} {t:TypeId} (h:w.heap[sb]? = some (.cells #[v,u] t (0,0))) :
  (w.setCell ⟨sb,1,none⟩ v').heap[sb]? = some (.cells #[v,v'] t (0,0)):=by
 simp [World.setCell,Array.getElem?_modify,h]
theorem heap_lt {w:World} {b:Nat} {o:Obj} (h:w.heap[b]? = some o):b < w.heap.size:=(Array.getElem?_eq_some_iff.1 h).1
theorem grown_set (w:World) (sb i:Nat) (v:Value):w.grownBy (w.setCell ⟨sb,i,none⟩ v) (some sb):=
 ⟨rfl,rfl,rfl,by simp [World.setCell],fun k _ hne=>Below.heap_setCell w _ v k (fun e=>hne (by rw [e]))⟩
theorem grown_drewN {a w:World} {row:Option Nat} (h:a.grownBy w row) (n:Nat):a.grownBy (w.drewN n) row:=⟨h.os,h.tape,h.output,h.size,h.block⟩
theorem Str.set {w:World} {sb:Nat} {k:Int} (h:Str w sb k) (v:Int) (hv:0 ≤ v):Str (w.setCell ⟨sb,1,none⟩ (.int .i64 v)) sb v:=by
 obtain ⟨A,c,l,hb,_,hr,hl,ho⟩:=h
 exact ⟨A,c,l,str_set hb,hv,hr.setCell (.inl (Nat.le_refl _)) _,hl,ho⟩
theorem Str.drewN {w:World} {sb:Nat} {k:Int} (h:Str w sb k) (n:Nat):Str (w.drewN n) sb k:=h
set_option maxHeartbeats 400000 in
theorem next_c (sb:Nat) (k n:Int) (w:World) (hs:Str w sb k) (hk:k ≤ 4611686018427387904) (hn:1 ≤ n) (hn2:n ≤ 4611686018427387904) :
  Calls Tryz.prog 12 #[.pointer (some ⟨sb,0,none⟩),.int .i64 n] w (Took sb k 1 (fun v _=>∃ x:Int,0 ≤ x ∧ x < n ∧ v = .int .i64 x) w):=by
 have hS:=hs.set (k + 1) (by have:=hs.choose_spec.choose_spec.choose_spec.2.1; omega)
 have HS:=Lib.hid hS; clear hS
 obtain ⟨A,c,l,hb,hk0,hr,hl,ho⟩:=hs
 have HO:=Lib.hid ho; clear ho
 obtain ⟨hc,hf⟩:=str_cells hb
 have c0:=hc 0
 have c1:=hc 1
 have f1:=hf 1
 have HB:=Lib.hid hb
 simp at c0 c1
 clear hc hf hb
 have HG:=grown_set w sb 1 (.int .i64 (k + 1))
 by_cases h0:l.length = 0
 ·have h0':(((l.length:Nat):Int) == 0) = true:=by simp [h0]
  have H0:=Lib.hid h0; clear h0
  go_enter Tryz.func12,Tryz.ntmps12
  go_wp2_with fail
  refine (below_c _ _ _ hn hn2).mono ?_
  rintro e w' ⟨v,⟨hv0,hv1⟩,rfl,rfl⟩
  go_wp2
  go_ret
  exact ⟨_,k + 1,rfl,⟨v,hv0,hv1,rfl⟩,by omega,HS.out,HG⟩
 ·have hlp:0 < l.length:=by omega
  obtain ⟨m,rfl⟩:=Int.eq_ofNat_of_zero_le hk0
  have hm:m % l.length < l.length:=Nat.mod_lt _ hlp
  obtain ⟨b,off,rfl,hb0,hb1,hcell⟩:=hr.at1 (enc1:=.int .i64) hm
  have h0':(((l.length:Nat):Int) == 0) = false:=beq_eq_false_iff_ne.2 (by omega)
  have h0'':¬ ((l.length:Nat):Int) = 0:=by omega
  have hcell':(w.setCell ⟨sb,1,none⟩ (.int .i64 (m + 1))).cell? ⟨b,off + m % l.length,none⟩ = some (.int .i64 l[m % l.length]):=by
   rw [World.cell?_setCell_other _ _ _ _ (fun e=>by have:=congrArg Addr.block e; simp at this; omega)]; exact hcell
  clear hcell h0
  go_enter Tryz.func12,Tryz.ntmps12
  go_wp2
  go_quiet (fail)
  go_wp2
  go_quiet (fail)
  go_wp2_with fail
  refine (below_c _ _ _ (by omega) (by omega)).mono ?_
  rintro e w' ⟨v,⟨hv0,hv1⟩,rfl,rfl⟩
  go_wp2_with fail
  refine (below_c _ _ _ hn hn2).mono ?_
  rintro e w' ⟨v2,⟨hv2,hv3⟩,rfl,rfl⟩
  go_wp2
  go_ret
  exact ⟨_,m + 1,rfl,⟨v2,hv2,hv3,rfl⟩,by omega,HS.out.drewN _,grown_drewN HG _⟩
def isInt (p:Int → Prop) (v:Value) (_:World):Prop:=∃ x:Int,p x ∧ v = .int .i64 x
def isBool (v:Value) (_:World):Prop:=∃ x:Bool,v = .bool x
def isStr (p:ByteArray → Prop) (v:Value) (_:World):Prop:=∃ x:ByteArray,p x ∧ v = .string x
set_option maxHeartbeats 400000 in
theorem range_c (sb:Nat) (k lo hi:Int) (w:World) (hs:Str w sb k) (hk:k ≤ 4611686018427387904) (h:lo ≤ hi) (h1:-1000000000000 ≤ lo) (h2:hi ≤ 1000000000000) :
  Calls Tryz.prog 36 #[.pointer (some ⟨sb,0,none⟩),.int .i64 lo,.int .i64 hi] w (Took sb k 1 (isInt (fun x=>lo ≤ x ∧ x ≤ hi)) w):=by
 have HS:=Lib.hid hs
 go_enter Tryz.func36,Tryz.ntmps36
 go_wp2_with fail
 refine (next_c sb k _ _ HS.out hk (by omega) (by omega)).mono ?_
 rintro e w' ⟨v,k',rfl,⟨x,hx0,hx1,rfl⟩,hk',hs',hg⟩
 have HK:=Lib.hid hs'; clear hs'
 go_wp2
 go_ret
 exact ⟨_,k',rfl,⟨_,⟨by omega,by omega⟩,rfl⟩,hk',HK.out,hg⟩
set_option maxHeartbeats 400000 in
theorem flip_c (sb:Nat) (k n:Int) (w:World) (hs:Str w sb k) (hk:k ≤ 4611686018427387904) (hn:1 ≤ n) (hn2:n ≤ 4611686018427387904) :
  Calls Tryz.prog 5 #[.pointer (some ⟨sb,0,none⟩),.int .i64 n] w (Took sb k 1 isBool w):=by
 have HS:=Lib.hid hs
 go_enter Tryz.func5,Tryz.ntmps5
 go_wp2_with fail
 refine (next_c sb k _ _ HS.out hk hn hn2).mono ?_
 rintro e w' ⟨v,k',rfl,⟨x,hx0,hx1,rfl⟩,hk',hs',hg⟩
 have HK:=Lib.hid hs'; clear hs'
 go_wp2
 go_ret
 exact ⟨_,k',rfl,⟨_,rfl⟩,hk',HK.out,hg⟩
set_option maxHeartbeats 400000 in
theorem pick_c (sb:Nat) (k:Int) (A:Option Addr) (l:List Int) (c lo hi:Nat) (w:World) (hs:Str w sb k) (hk:k ≤ 4611686018427387904) (hl0:0 < l.length) (hl:l.length ≤ 140737488355328)
  (hr:Rs w lo hi 1 intc A l) (hlo:sb < lo) (hhi:hi ≤ w.heap.size) :
  Calls Tryz.prog 70 #[.pointer (some ⟨sb,0,none⟩),.slice A l.length c] w (Took sb k 1 (isInt (· ∈ l)) w):=by
 have HS:=Lib.hid hs
 have HR:=Lib.hid hr; clear hr
 go_enter Tryz.func70,Tryz.ntmps70
 go_wp2_with fail
 refine (next_c sb k _ _ HS.out hk (by omega) (by omega)).mono ?_
 rintro e w' ⟨v,k',rfl,⟨x,hx0,hx1,rfl⟩,hk',hs',hg⟩
 have HK:=Lib.hid hs'; clear hs'
 obtain ⟨m,rfl⟩:=Int.eq_ofNat_of_zero_le hx0
 have hm:m < l.length:=by omega
 obtain ⟨b,off,rfl,hb0,hb1,hcell⟩:=(HR.out.grown hg hhi (.inr hlo)).at1 (enc1:=.int .i64) hm
 go_wp2
 go_ret
 exact ⟨_,k',rfl,⟨_,List.getElem_mem hm,rfl⟩,hk',HK.out,hg⟩
set_option maxHeartbeats 400000 in
theorem one_c (sb:Nat) (k:Int) (A:Option Addr) (l:List ByteArray) (c lo hi:Nat) (w:World) (hs:Str w sb k) (hk:k ≤ 4611686018427387904) (hl0:0 < l.length) (hl:l.length ≤ 140737488355328)
  (hr:Rs w lo hi 1 strc A l) (hlo:sb < lo) (hhi:hi ≤ w.heap.size) :
  Calls Tryz.prog 17 #[.pointer (some ⟨sb,0,none⟩),.slice A l.length c] w (Took sb k 1 (isStr (· ∈ l)) w):=by
 have HS:=Lib.hid hs
 have HR:=Lib.hid hr; clear hr
 go_enter Tryz.func17,Tryz.ntmps17
 go_wp2_with fail
 refine (next_c sb k _ _ HS.out hk (by omega) (by omega)).mono ?_
 rintro e w' ⟨v,k',rfl,⟨x,hx0,hx1,rfl⟩,hk',hs',hg⟩
 have HK:=Lib.hid hs'; clear hs'
 obtain ⟨m,rfl⟩:=Int.eq_ofNat_of_zero_le hx0
 have hm:m < l.length:=by omega
 obtain ⟨b,off,rfl,hb0,hb1,hcell⟩:=(HR.out.grown hg hhi (.inr hlo)).at1 (enc1:=.string) hm
 go_wp2
 go_ret
 exact ⟨_,k',rfl,⟨_,List.getElem_mem hm,rfl⟩,hk',HK.out,hg⟩
end
section
open Go.RowKit
end
section
open Go.RowKit
section
variable {α:Type} [DecidableEq α]
end
end
section
open Go.RowKit
section
variable {α:Type} [DecidableEq α]
end
end
section
open Go.RowKit
end
section
open Go.RowKit
structure PlainKey (P:Program) (k:TypeId) {κ:Type} [DecidableEq κ] (mk:κ → Value):Prop where
 desc:∃ d,P.underlying k = some d ∧ (∀ a b,Instr.sameNow d (mk a) (mk b) = some (decide (a = b))) ∧
  (∀ ms,d ≠ .interface ms) ∧ (∀ n e,d ≠ .array n e) ∧ (∀ fs,d ≠ .struct fs)
 bits:∀ a,Instr.sameBits 10000 (mk a) (mk a) = true
theorem plainKey_string {P:Program} {k:TypeId} (h:P.underlying k = some .string):PlainKey P k Value.string:=
 ⟨⟨_,h,fun a b=>by simp only [Instr.sameNow,beq_ba],by simp,by simp,by simp⟩,fun a=>by simp [Instr.sameBits,beq_ba]⟩
theorem plainKey_int {P:Program} {k:TypeId} {q:IntKind} (h:P.underlying k = some (.int q)):PlainKey P k (Value.int q):=
 ⟨⟨_,h,fun a b=>by simp only [Instr.sameNow]; congr 1,by simp,by simp,by simp⟩,fun a=>by simp [Instr.sameBits]⟩
section
variable {κ:Type} [DecidableEq κ] {mk:κ → Value}
def lk:List (κ × Value) → κ → Option Value
 | [],_=>none
 | (k,v) :: m,x=>if x = k then some v else lk m x
def ix:List (κ × Value) → κ → Option (Nat × Value)
 | [],_=>none
 | (k,v) :: m,x=>if x = k then some (0,v) else (ix m x).map fun p=>(p.1 + 1,p.2)
def up:List (κ × Value) → κ → Value → List (κ × Value)
 | [],k,v=>[(k,v)]
 | (k',v') :: m,k,v=>if k = k' then (k,v) :: m else (k',v') :: up m k v
theorem lk_up (m:List (κ × Value)) (k:κ) (v:Value) (x:κ):lk (up m k v) x = if x = k then some v else lk m x:=by
 induction m with
 | nil=>simp [up,lk]
 | cons p m ih=>
  obtain ⟨k',v'⟩:=p
  by_cases hk:k = k'
  ·subst hk; by_cases hx:x = k <;> simp [up,lk,hx]
  ·by_cases hx:x = k
   ·subst hx; simp [up,lk,hk,ih]
   ·simp [up,lk,hk,ih,hx]
theorem lk_ix (m:List (κ × Value)) (x:κ):lk m x = (ix m x).map (·.2):=by
 induction m with
 | nil=>rfl
 | cons p m ih=>
  obtain ⟨k',v'⟩:=p
  by_cases hx:x = k' <;> simp [lk,ix,hx,ih,Function.comp_def]
def pairs (mk:κ → Value) (m:List (κ × Value)):List (Value × Value):=m.map fun p=>(mk p.1,p.2)
def epairs (es:List MapEntry):List (Value × Value):=es.map fun e=>(e.key,e.val)
theorem find_ix {d:TypeDesc} (hd:∀ a b,Instr.sameNow d (mk a) (mk b) = some (decide (a = b))) (x:κ) (m:List (κ × Value)) :
  ∀ (es:List MapEntry) (i:Nat),epairs es = pairs mk m → Instr.findNow d (mk x) es i = some ((ix m x).map fun p=>(i + p.1,p.2)):=by
 induction m with
 | nil=>intro es i h; simp [epairs,pairs] at h; subst h; rfl
 | cons p m ih=>
  obtain ⟨k',v'⟩:=p
  intro es i h
  obtain _ | ⟨e,es⟩:=es
  ·simp [epairs,pairs] at h
  ·simp only [epairs,pairs,List.map_cons,List.cons.injEq,Prod.mk.injEq] at h
   obtain ⟨⟨h1,h2⟩,h3⟩:=h
   simp only [Instr.findNow,h1,hd,ix]
   by_cases hx:x = k'
   ·simp [hx,h2]
   ·simp only [hx,decide_false,if_false]
    rw [ih es (i + 1) h3]
    cases ix m x <;> simp <;> omega
theorem up_none (m:List (κ × Value)) (k:κ) (v:Value) (h:ix m k = none):up m k v = m ++ [(k,v)]:=by
 induction m with
 | nil=>rfl
 | cons p m ih=>
  obtain ⟨k',v'⟩:=p
  by_cases hk:k = k'
  ·simp [ix,hk] at h
  ·simp [ix,hk] at h; simp [up,hk,ih h]
theorem up_some (m:List (κ × Value)) (k:κ) (v:Value) (j:Nat) (u:Value) (h:ix m k = some (j,u)) :
  ∀ es:List MapEntry,epairs es = pairs mk m → (∃ e,es[j]? = some e ∧ e.key = mk k) ∧ epairs (es.modify j fun e=>{ e with key:=mk k,val:=v }) = pairs mk (up m k v):=by
 induction m generalizing j with
 | nil=>simp [ix] at h
 | cons p m ih=>
  obtain ⟨k',v'⟩:=p
  intro es he
  obtain _ | ⟨e,es⟩:=es
  ·simp [epairs,pairs] at he
  ·simp only [epairs,pairs,List.map_cons,List.cons.injEq,Prod.mk.injEq] at he
   obtain ⟨⟨h1,h2⟩,h3⟩:=he
   by_cases hk:k = k'
   ·subst hk
    simp [ix] at h
    obtain ⟨rfl,rfl⟩:=h
    simp [epairs,pairs,up,h1]
    exact h3
   ·simp only [ix,hk,if_false] at h
    cases hx:ix m k with
    | none=>rw [hx] at h; simp at h
    | some q=>
     rw [hx] at h
     simp at h
     obtain ⟨rfl,rfl⟩:=h
     obtain ⟨⟨e',g1,g2⟩,g3⟩:=ih _ hx es h3
     refine ⟨⟨e',by simpa using g1,g2⟩,?_⟩
     simp only [up,hk,if_false]
     simp only [List.modify_succ_cons,epairs,pairs,List.map_cons,h1,h2] at g3 ⊢
     rw [g3]
def MapL (w:World) (b:Nat) (mk:κ → Value) (m:List (κ × Value)):Prop:=
 ∃ es clock,w.heap[b]? = some (.map es clock) ∧ epairs es.toList = pairs mk m
variable {w w':World} {b B:Nat} {m:List (κ × Value)}
omit [DecidableEq κ] in
theorem MapL.lt (h:MapL w b mk m):b < w.heap.size:=by
 obtain ⟨es,clock,hb,_⟩:=h
 exact (Array.getElem?_eq_some_iff.1 hb).1
omit [DecidableEq κ] in
theorem MapL.keep (h:MapL w b mk m) (hk:w'.heap[b]? = w.heap[b]?):MapL w' b mk m:=by
 obtain ⟨es,clock,hb,h⟩:=h
 exact ⟨es,clock,hk.trans hb,h⟩
omit [DecidableEq κ] in
theorem MapL.below (h:MapL w b mk m) (hb:Below B w w') (hlt:b < B):MapL w' b mk m:=h.keep (hb.block b hlt)
omit [DecidableEq κ] in
theorem MapL.alloc (h:MapL w b mk m) (o:Obj):MapL (w.alloc o) b mk m:=h.keep (Below.heap_alloc w o b h.lt)
omit [DecidableEq κ] in
omit [DecidableEq κ] in
omit [DecidableEq κ] in
theorem MapL.made (w:World):MapL (w.alloc (.map #[] 0)) w.heap.size mk ([]:List (κ × Value)):=⟨#[],0,heap_alloc_new w _,rfl⟩
theorem checkKey_plain {P:Program} {k:TypeId} (K:PlainKey P k mk) (x:κ) (c:Bool) (w:World):(Instr.checkKey c 10000 k (mk x)).run P w = .ok () w:=by
 obtain ⟨d,hd,_,h1,h2,h3⟩:=K.desc
 unfold Instr.checkKey
 simp only [Sem.run_bind,run_underlying hd,Result.andThen_ok]
 split <;> first | rfl | (exfalso; first | exact h1 _ rfl | exact h2 _ _ rfl | exact h3 _ rfl)
theorem run_lookup_plain {P:Program} {t k e:TypeId} (K:PlainKey P k mk) (ht:P.underlying t = some (.map k e)) {z:Value} (hz:(zeroValue e).run P w = .ok z w) (h:MapL w b mk m) (x:κ) (ok:Bool) :
  (Instr.lookup t (.map (some b)) (mk x) ok).run P w = .ok (if ok then .tuple #[(lk m x).getD z,.bool (lk m x).isSome] else (lk m x).getD z) w:=by
 obtain ⟨es,clock,hb,he⟩:=h
 obtain ⟨d,hd,hs,_⟩:=K.desc
 have hck:=fun c=>checkKey_plain K x c w
 have hf:=find_ix hs x m es.toList 0 he
 simp only [Nat.zero_add] at hf
 rw [lk_ix]
 cases hx:ix m x with
 | none=>
  rw [hx] at hf
  simp [Instr.lookup,run_underlying ht,getObj,Sem.run,hb,hck,Instr.findKey,run_underlying hd,hf,hz]
 | some p=>
  rw [hx] at hf
  simp [Instr.lookup,run_underlying ht,getObj,Sem.run,hb,hck,Instr.findKey,run_underlying hd,hf]
theorem run_update_plain {P:Program} {t k e:TypeId} (K:PlainKey P k mk) (ht:P.underlying t = some (.map k e)) (h:MapL w b mk m) (x:κ) (v:Value) :
  ∃ w',(Instr.mapUpdate t (.map (some b)) (mk x) v).run P w = .ok () w' ∧ MapL w' b mk (up m x v) ∧ w.grownBy w' (some b):=by
 obtain ⟨es,clock,hb,he⟩:=h
 obtain ⟨d,hd,hs,_⟩:=K.desc
 have hck:=fun c=>checkKey_plain K x c w
 have hf:=find_ix hs x m es.toList 0 he
 simp only [Nat.zero_add] at hf
 have hgb:∀ o,w.grownBy { w with heap:=w.heap.setIfInBounds b o } (some b):=fun o=>
  ⟨rfl,rfl,rfl,by simp,fun i _ hi=>by
   show (w.heap.setIfInBounds b o)[i]? = _
   rw [Array.getElem?_setIfInBounds_ne (fun e=>hi (by rw [e]))]⟩
 have hlt:b < w.heap.size:=(Array.getElem?_eq_some_iff.1 hb).1
 have hnew:∀ o,(w.heap.setIfInBounds b o)[b]? = some o:=fun o=>by rw [Array.getElem?_setIfInBounds]; simp [hlt]
 cases hx:ix m x with
 | none=>
  rw [hx] at hf
  refine ⟨{ w with heap:=w.heap.setIfInBounds b (.map (es.push { key:=mk x,val:=v,born:=clock }) (clock + 1)) },?_,⟨_,_,hnew _,?_⟩,hgb _⟩
  ·simp [Instr.mapUpdate,run_underlying ht,getObj,setObj,Sem.run,hb,hck,Instr.findKey,run_underlying hd,hf]
  ·rw [up_none m x v hx]; simp [epairs,pairs] at he ⊢; exact he
 | some p=>
  obtain ⟨j,u⟩:=p
  rw [hx] at hf
  obtain ⟨⟨e0,h1,h2⟩,h3⟩:=up_some m x v j u hx es.toList he
  have h1':es[j]? = some e0:=by simpa using h1
  refine ⟨{ w with heap:=w.heap.setIfInBounds b (.map (es.modify j fun e=>{ e with key:=mk x,val:=v }) clock) },?_,⟨_,_,hnew _,?_⟩,hgb _⟩
  ·simp [Instr.mapUpdate,run_underlying ht,getObj,setObj,Sem.run,hb,hck,Instr.findKey,run_underlying hd,hf,h1',h2,Instr.keyThatStays,K.bits]
  ·rw [Array.toList_modify]; exact h3
theorem wpList_lookup_plain {P:Program} (w:World) {ops:Array Oper} {rest:List Oper} {o:Oper} {a:Act} {Q:Exit → Act → World → Prop}
  (hg:o.guard = none) (mo xo:Operand) (t:TypeId) (ok:Bool) (hop:o.op = Op.lookup t mo xo ok) (k e:TypeId) (K:PlainKey P k mk) (ht:P.underlying t = some (.map k e)) (z:Value) (hz:(zeroValue e).run P w = .ok z w)
  (b:Nat) (m:List (κ × Value)) (hm:a.eval mo = .map (some b)) (h:MapL w b mk m) (x:κ) (hx:a.eval xo = mk x)
  (hK:wpList P ops Q rest (a.put o.dst (if ok then .tuple #[(lk m x).getD z,.bool (lk m x).isSome] else (lk m x).getD z)) w) :
  wpList P ops Q (o :: rest) a w:=by
 refine wpList_plain hg fun K' hK'=>?_
 have hrun:=run_lookup_plain K ht hz h x ok
 unfold Oper.wp
 simp only [execOp,hop,hm,hx,hrun,Sem.run_bind,Result.andThen]
 exact hK' _ _ hK
theorem wpList_update_plain {P:Program} (w:World) {ops:Array Oper} {rest:List Oper} {o:Oper} {a:Act} {Q:Exit → Act → World → Prop}
  (hg:o.guard = none) (mo xo vo:Operand) (t:TypeId) (hop:o.op = Op.mapUpdate t mo xo vo) (k e:TypeId) (K:PlainKey P k mk) (ht:P.underlying t = some (.map k e))
  (b:Nat) (m:List (κ × Value)) (hm:a.eval mo = .map (some b)) (h:MapL w b mk m) (x:κ) (hx:a.eval xo = mk x) (v:Value) (hv:a.eval vo = v)
  (hK:∀ w',MapL w' b mk (up m x v) → w.grownBy w' (some b) → wpList P ops Q rest (a.put o.dst undef) w') :
  wpList P ops Q (o :: rest) a w:=by
 refine wpList_plain hg fun K' hK'=>?_
 obtain ⟨w',hrun,r1,r2⟩:=run_update_plain K ht h x v
 unfold Oper.wp
 simp [execOp,hop,hm,hx,hv,hrun,Result.andThen]
 exact hK' _ _ (hK w' r1 r2)
end
end
section
open Go.RowKit
theorem wpList_lookup_g {κ:Type} [DecidableEq κ] {mk:κ → Value} {P:Program} (w:World) {ops:Array Oper} {rest:List Oper} {o:Oper} {a:Act} {Q:Exit → Act → World → Prop}
  (hg:Region.wanted o (yielded ops a.tmps) = true) (mo xo:Operand) (t:TypeId) (ok:Bool) (hop:o.op = Op.lookup t mo xo ok) (k e:TypeId) (K:PlainKey P k mk) (ht:P.underlying t = some (.map k e)) (z:Value) (hz:(zeroValue e).run P w = .ok z w)
  (b:Nat) (m:List (κ × Value)) (hm:a.eval mo = .map (some b)) (h:MapL w b mk m) (x:κ) (hx:a.eval xo = mk x)
  (hK:wpList P ops Q rest (a.put o.dst (if ok then .tuple #[(lk m x).getD z,.bool (lk m x).isSome] else (lk m x).getD z)) w) :
  wpList P ops Q (o :: rest) a w:=by
 refine wpList_step fun K' hK'=>?_
 rw [if_pos hg]
 have hrun:=run_lookup_plain K ht hz h x ok
 unfold Oper.wp
 simp only [execOp,hop,hm,hx,hrun,Sem.run_bind,Result.andThen]
 exact hK' _ _ hK
end
section
section
variable {P:Program} {ops:Array Oper} {md:Region.Mode}
def readOp (o:Oper):Bool:=
 match o.op with
 | .move _ | .assign _ | .pick _ _ _ | .binOp _ _ _ _ _ | .unOp _ _ _ | .load _ _ | .fieldAddr _ _ _ | .indexAddr _ _ _ | .build _ _ | .extract _ _ | .nilCheck _=>true
 | _=>false
theorem run_v {α:Type} {f:α → Value} {s:Sem α} {w w':World} {n:Next} (h:(s >>= fun x=>pure (Next.value (f x)):Sem Next).run P w = .ok n w'):∃ u,n = .value u:=by
 rw [Sem.run_bind] at h
 cases hs:s.run P w with
 | ok u w1=>
  rw [hs] at h
  simp only [Result.andThen,Sem.run_pure] at h
  injection h with h1 h2
  exact ⟨_,h1.symm⟩
 | halt x w1=>rw [hs] at h; simp only [Result.andThen] at h; cases h
theorem run_nilCheck {ρ:Operand → Value} {x:Operand} {o:Oper} {w w':World} {n:Next} (e:o.op = .nilCheck x) (h:(execOp ρ o).run P w = .ok n w'):∃ u,n = .value u:=by
 unfold execOp at h
 rw [e] at h
 dsimp only at h
 split at h
 ·cases h
 ·cases h
 ·cases h
 ·split at h
  ·cases h
  ·rw [Sem.run_bind] at h
   rename_i t v _ _ _
   cases hp:Sem.run P program w with
   | halt x w1=>rw [hp] at h; simp only [Result.andThen] at h; cases h
   | ok p w1=>
    rw [hp] at h
    simp only [Result.andThen] at h
    rw [Sem.run_bind] at h
    generalize hs:Sem.run P _ w1 = r at h
    cases r with
    | halt x w2=>simp only [Result.andThen] at h; cases h
    | ok b w2=>
     simp only [Result.andThen] at h
     split at h
     ·rw [Sem.run_bind] at h
      generalize hs2:Sem.run P _ w2 = r at h
      cases r with
      | halt x w3=>simp only [Result.andThen] at h; cases h
      | ok u w3=>
       simp only [Result.andThen,Sem.run_pure] at h
       injection h with h1 h2
       exact ⟨_,h1.symm⟩
     ·simp only [Sem.run_pure] at h
      injection h with h1 h2
      exact ⟨_,h1.symm⟩
  ·rw [Sem.run_pure] at h; injection h with h1 h2; exact ⟨_,h1.symm⟩
 ·rw [Sem.run_pure] at h; injection h with h1 h2; exact ⟨_,h1.symm⟩
theorem readOp_value {o:Oper} {ρ:Operand → Value} {w w':World} {n:Next} (ho:readOp o = true) (h:(execOp ρ o).run P w = .ok n w'):∃ u,n = .value u:=by
 unfold readOp at ho
 split at ho
 all_goals first
  | (rename_i e; exact run_nilCheck e h)
  | (rename_i e; unfold execOp at h; rw [e] at h; dsimp only at h; first | exact run_v h | exact run_v (f:=id) h | (rw [Sem.run_pure] at h; injection h with h1 h2; exact ⟨_,h1.symm⟩))
  | cases ho
theorem read_yields {o:Oper} {a:Act} {D:World → Prop} {v:Value} {w:World} (ho:readOp o = true) (h:o.quietAt P a D w v):(execOp a.eval o).run P w = .ok (.value v) w:=by
 unfold Oper.quietAt at h
 cases hr:(execOp a.eval o).run P w with
 | ok n w'=>
  obtain ⟨u,rfl⟩:=readOp_value ho hr
  rw [hr] at h
  obtain ⟨h1,h2⟩:=h
  rw [h1,h2]
 | halt x w'=>rw [hr] at h; exact h.elim
theorem wpQuiet_mono {P:Program} {ops:Array Oper} {C:World → Prop} {K K':Act → Prop} (hk:∀ a,K a → K' a):∀ {l:List Oper} {a:Act},wpQuiet P ops C K l a → wpQuiet P ops C K' l a
 | [],_,h=>hk _ h
 | o :: l,a,h=>by
  unfold wpQuiet at h ⊢
  split
  ·rename_i hw; rw [if_pos hw] at h; exact Oper.quiet_mono (fun _ h=>wpQuiet_mono hk h) h
  ·rename_i hw; rw [if_neg hw] at h; exact wpQuiet_mono hk h
end
end
section
section
variable {P:Program} {ops:Array Oper} {Q:Exit → Act → World → Prop} {md:Region.Mode} {S:World → Prop} {b p:Nat → Bool}
def wpAnyT (P:Program) (md:Region.Mode) (ops:Array Oper) (Q:Exit → Act → World → Prop) (S:World → Prop) (b p:Nat → Bool):Nat → Array Bool → Act → World → Prop
 | 0,listed,a,w=>Region.ready md ops listed = [] ∧ Q .normal a w
 | fuel + 1,listed,a,w=>
  (Region.ready md ops listed = [] → Q .normal a w) ∧
  ∀ i ∈ Region.ready md ops listed,wpOp P ops Q i (fun a' w'=>((b i = true → S w') ∧ (p i = true → w' = w)) ∧ wpAnyT P md ops Q S b p fuel (listed.setIfInBounds i true) a' w') a w
theorem wpAny_of_T:∀ (fuel:Nat) (listed:Array Bool) (a:Act) (w:World),wpAnyT P md ops Q S b p fuel listed a w → wpAny P md ops Q fuel listed a w
 | 0,_,_,_,h=>h
 | fuel + 1,_,_,_,h=>⟨h.1,fun i hi=>wpOp_mono (fun a' w' h'=>wpAny_of_T fuel _ a' w' h'.2) (h.2 i hi)⟩
theorem wpAnyT_first {i:Nat} {oi:Oper} {v:Value} (hi:ops[i]? = some oi) (hsel:∀ (j:Nat) (o:Oper) cs b,ops[j]? = some o → o.op ≠ .select cs b)
  (hQ:∀ c a w,Q (.panic c) (a.put oi.dst v) w → Q (.panic c) a w) :
  ∀ (fuel:Nat) (listed:Array Bool) (a:Act) (w:World),
   (∀ j oj,ops[j]? = some oj → j ≠ i → listed.getD j true = false → (∀ e ∈ oj.after,Region.binds md e = true → e.on ≠ i) → oi.apart ops oj = true) →
   (∀ j oj,ops[j]? = some oj → j ≠ i → listed.getD j true = false → (b j = true ∨ p j = true) ∨ ∃ e ∈ oj.after,Region.binds md e = true ∧ e.on = i) →
   i ∈ Region.ready md ops listed → YieldsIf P ops S oi v a → S w →
   wpAnyT P md ops Q S b p fuel (listed.setIfInBounds i true) (a.put oi.dst v) w → wpAnyT P md ops Q S b p (fuel + 1) listed a w:=by
 intro fuel
 induction fuel with
 | zero=>
  intro listed a w _ _ hr hy hS H
  refine ⟨fun h=>(by rw [h] at hr; cases hr),fun j hj=>?_⟩
  by_cases hji:j = i
  ·subst hji; exact hy.wpOp hi hS ⟨⟨fun _=>hS,fun _=>rfl⟩,H⟩
  ·have:=ready_mono hj hji
   rw [H.1] at this
   cases this
 | succ fuel ih=>
  intro listed a w hfree hwt hr hy hS H
  refine ⟨fun h=>(by rw [h] at hr; cases hr),fun j hj=>?_⟩
  by_cases hji:j = i
  ·subst hji; exact hy.wpOp hi hS ⟨⟨fun _=>hS,fun _=>rfl⟩,H⟩
  ·have h1:=H.2 j (ready_mono hj hji)
   obtain ⟨hjun,oj,hoj,hall⟩:=mem_ready.1 hj
   have hnot:∀ e ∈ oj.after,Region.binds md e = true → e.on ≠ i:=fun e he hb heq=>by
    have h1:=hall e he hb
    have h0:=(mem_ready.1 hr).1
    rw [heq] at h1
    rcases Nat.lt_or_ge i listed.size with h' | h'
    ·simp [h'] at h0 h1; rw [h0] at h1; cases h1
    ·simp [Array.getElem?_eq_none h'] at h1
   have hjn:b j = true ∨ p j = true:=(hwt j oj hoj hji hjun).resolve_right fun ⟨e,he,hb,hon⟩=>hnot e he hb hon
   have h2:=wpOp_putIf hoj (hfree j oj hoj hji hjun hnot) (fun cs b=>hsel i oi cs b hi) (fun cs b=>hsel j oj cs b hoj) hQ hy h1
   have hfree':∀ k ok,ops[k]? = some ok → k ≠ i → (listed.setIfInBounds j true).getD k true = false →
     (∀ e ∈ ok.after,Region.binds md e = true → e.on ≠ i) → oi.apart ops ok = true:=fun k ok hk hki hun hno=>by
    refine hfree k ok hk hki ?_ hno
    by_cases hjk:j = k
    ·subst hjk; exact hjun
    ·rw [getD_set_ne true hjk] at hun; exact hun
   have hwt':∀ k ok,ops[k]? = some ok → k ≠ i → (listed.setIfInBounds j true).getD k true = false → (b k = true ∨ p k = true) ∨ ∃ e ∈ ok.after,Region.binds md e = true ∧ e.on = i:=fun k ok hk hki hun=>by
    refine hwt k ok hk hki ?_
    by_cases hjk:j = k
    ·subst hjk; exact hjun
    ·rw [getD_set_ne true hjk] at hun; exact hun
   refine wpOp_mono (fun a' w' h3=>⟨h3.2.1,ih (listed.setIfInBounds j true) a' w' hfree' hwt' (ready_mono hr (Ne.symm hji)) h3.1 (hjn.elim h3.2.1.1 fun h=>by rw [h3.2.1.2 h]; exact hS) ?_⟩) h2
   rw [Array.setIfInBounds_comm _ _ hji]
   exact h3.2.2
theorem wpAnyT_firstW {i:Nat} {oi:Oper} {v:Value} (hi:ops[i]? = some oi) (hbi:b i = false) (hsel:∀ (j:Nat) (o:Oper) cs b,ops[j]? = some o → o.op ≠ .select cs b)
  (hQ:∀ c a w,Q (.panic c) (a.put oi.dst v) w → Q (.panic c) a w) :
  ∀ (fuel:Nat) (listed:Array Bool) (a:Act) (w:World),
   (∀ j oj,ops[j]? = some oj → j ≠ i → listed.getD j true = false → (∀ e ∈ oj.after,Region.binds md e = true → e.on ≠ i) → oi.apart ops oj = true) →
   i ∈ Region.ready md ops listed → YieldsIf P ops (fun _=>True) oi v a →
   wpAnyT P md ops Q S b p fuel (listed.setIfInBounds i true) (a.put oi.dst v) w → wpAnyT P md ops Q S b p (fuel + 1) listed a w:=by
 intro fuel
 induction fuel with
 | zero=>
  intro listed a w _ hr hy H
  refine ⟨fun h=>(by rw [h] at hr; cases hr),fun j hj=>?_⟩
  by_cases hji:j = i
  ·subst hji; exact hy.wpOp hi trivial ⟨⟨fun h=>(by rw [hbi] at h; cases h),fun _=>rfl⟩,H⟩
  ·have:=ready_mono hj hji
   rw [H.1] at this
   cases this
 | succ fuel ih=>
  intro listed a w hfree hr hy H
  refine ⟨fun h=>(by rw [h] at hr; cases hr),fun j hj=>?_⟩
  by_cases hji:j = i
  ·subst hji; exact hy.wpOp hi trivial ⟨⟨fun h=>(by rw [hbi] at h; cases h),fun _=>rfl⟩,H⟩
  ·have h1:=H.2 j (ready_mono hj hji)
   obtain ⟨hjun,oj,hoj,hall⟩:=mem_ready.1 hj
   have hnot:∀ e ∈ oj.after,Region.binds md e = true → e.on ≠ i:=fun e he hb heq=>by
    have h1:=hall e he hb
    have h0:=(mem_ready.1 hr).1
    rw [heq] at h1
    rcases Nat.lt_or_ge i listed.size with h' | h'
    ·simp [h'] at h0 h1; rw [h0] at h1; cases h1
    ·simp [Array.getElem?_eq_none h'] at h1
   have h2:=wpOp_putIf hoj (hfree j oj hoj hji hjun hnot) (fun cs b=>hsel i oi cs b hi) (fun cs b=>hsel j oj cs b hoj) hQ hy h1
   have hfree':∀ k ok,ops[k]? = some ok → k ≠ i → (listed.setIfInBounds j true).getD k true = false →
     (∀ e ∈ ok.after,Region.binds md e = true → e.on ≠ i) → oi.apart ops ok = true:=fun k ok hk hki hun hno=>by
    refine hfree k ok hk hki ?_ hno
    by_cases hjk:j = k
    ·subst hjk; exact hjun
    ·rw [getD_set_ne true hjk] at hun; exact hun
   refine wpOp_mono (fun a' w' h3=>⟨h3.2.1,ih (listed.setIfInBounds j true) a' w' hfree' (ready_mono hr (Ne.symm hji)) h3.1 ?_⟩) h2
   rw [Array.setIfInBounds_comm _ _ hji]
   exact h3.2.2
def restB (md:Region.Mode) (ops:Array Oper) (b p:Nat → Bool) (listed:Array Bool) (r:Nat):Bool:=(List.range ops.size).all fun j=>decide (j = r) || listed.getD j true || (b j || p j) || Region.waitsFor md ops j r
theorem restB_spec {listed:Array Bool} {r:Nat} (h:restB md ops b p listed r = true):∀ j oj,ops[j]? = some oj → j ≠ r → listed.getD j true = false → (b j = true ∨ p j = true) ∨ ∃ e ∈ oj.after,Region.binds md e = true ∧ e.on = r:=by
 intro j oj hj hne hl
 have htl:j < ops.size:=(Array.getElem?_eq_some_iff.1 hj).1
 have h1:=List.all_eq_true.1 h j (List.mem_range.2 htl)
 simp only [Bool.or_eq_true,decide_eq_true_eq] at h1
 rcases h1 with ((h1 | h1) | h1) | h1
 ·exact absurd h1 hne
 ·rw [hl] at h1; cases h1
 ·exact .inl h1
 ·obtain ⟨o',ho',e,he,hb,hon⟩:=Region.waitsFor_spec h1
  have:o' = oj:=Option.some.inj (ho'.symm.trans hj)
  subst this
  exact .inr ⟨e,he,hb,hon⟩
def setL:List Nat → Array Bool → Array Bool
 | [],L=>L
 | i :: is,L=>setL is (L.setIfInBounds i true)
def takesB (md:Region.Mode) (ops:Array Oper) (b p:Nat → Bool):List Nat → Array Bool → Bool
 | [],_=>true
 | r :: rs,L=>(Region.ready md ops L).contains r && Region.free md ops L r && restB md ops b p L r && takesB md ops b p rs (L.setIfInBounds r true)
def firstsB (md:Region.Mode) (ops:Array Oper) (b:Nat → Bool):List Nat → Array Bool → Bool
 | [],_=>true
 | r :: rs,L=>(Region.ready md ops L).contains r && Region.free md ops L r && !b r && firstsB md ops b rs (L.setIfInBounds r true)
def pick (l:List Oper):List Nat → List Oper
 | []=>[]
 | i :: is=>match l[i]? with
  | some o=>o :: pick l is
  | none=>pick l is
def wpSegs (P:Program) (l:List Oper) (Q:Exit → Act → World → Prop) (S:World → Prop) (b:Nat → Bool):List (List Nat × List Nat × Nat) → Act → World → Prop
 | [],a,w=>Q .normal a w
 | (ws,rs,i) :: ss,a,w=>wpQuiet P l.toArray (fun _=>True) (wpQuiet P l.toArray S (fun a'=>match l[i]? with
  | some o=>o.wp P a' w (fun a1 w1=>(b i = true → S w1) ∧ wpSegs P l Q S b ss a1 w1) Q
  | none=>False) (pick l rs)) (pick l ws) a
theorem wpT_reads {l:List Oper} {w:World} {g:Nat} (hs:Region.noSelect l.toArray = true) (hQ:∀ c a w d v,Q (.panic c) (Act.put a d v) w → Q (.panic c) a w) (hS:S w) :
  ∀ (rs:List Nat) (listed:Array Bool) (a:Act),(∀ r ∈ rs,∃ o,l[r]? = some o ∧ readOp o = true) → takesB md l.toArray b p rs listed = true →
   wpQuiet P l.toArray S (fun a'=>wpAnyT P md l.toArray Q S b p g (setL rs listed) a' w) (pick l rs) a → wpAnyT P md l.toArray Q S b p (rs.length + g) listed a w
 | [],listed,a,_,_,h=>by rw [List.length_nil,Nat.zero_add]; exact h
 | r :: rs,listed,a,hr,hB,h=>by
  obtain ⟨o,ho,hro⟩:=hr r (by simp)
  have h0:l.toArray[r]? = some o:=by simpa using ho
  simp only [takesB,Bool.and_eq_true] at hB
  obtain ⟨⟨⟨hrd,hf⟩,hrn⟩,hB'⟩:=hB
  simp only [pick,ho] at h
  have hst:qOp P l.toArray S r (wpQuiet P l.toArray S (fun a'=>wpAnyT P md l.toArray Q S b p g (setL (r :: rs) listed) a' w) (pick l rs)) a:=by unfold qOp; simp only [h0]; exact h
  obtain ⟨v,hy,hK⟩:=yieldsIn_of_qOp h0 hst
  have hyi:YieldsIf P l.toArray S o v a:=hy.imp (fun ⟨hw,hq⟩=>⟨hw,fun w hw'=>read_yields hro (hq w hw')⟩) id
  rw [List.length_cons,show rs.length + 1 + g = (rs.length + g) + 1 by omega]
  exact wpAnyT_first h0 (Region.noSelect_spec hs) (fun c a w h=>hQ c a w _ _ h) _ _ _ _ (Region.free_spec h0 hf) (restB_spec hrn) (by simpa using hrd) hyi hS (wpT_reads hs hQ hS rs _ _ (fun q hq=>hr q (by simp [hq])) hB' hK)
theorem wpT_firsts {l:List Oper} {w:World} {g:Nat} (hs:Region.noSelect l.toArray = true) (hQ:∀ c a w d v,Q (.panic c) (Act.put a d v) w → Q (.panic c) a w) :
  ∀ (rs:List Nat) (listed:Array Bool) (a:Act),(∀ r ∈ rs,∃ o,l[r]? = some o ∧ readOp o = true) → firstsB md l.toArray b rs listed = true →
   wpQuiet P l.toArray (fun _=>True) (fun a'=>wpAnyT P md l.toArray Q S b p g (setL rs listed) a' w) (pick l rs) a → wpAnyT P md l.toArray Q S b p (rs.length + g) listed a w
 | [],listed,a,_,_,h=>by rw [List.length_nil,Nat.zero_add]; exact h
 | r :: rs,listed,a,hr,hB,h=>by
  obtain ⟨o,ho,hro⟩:=hr r (by simp)
  have h0:l.toArray[r]? = some o:=by simpa using ho
  simp only [firstsB,Bool.and_eq_true,Bool.not_eq_true'] at hB
  obtain ⟨⟨⟨hrd,hf⟩,hrn⟩,hB'⟩:=hB
  simp only [pick,ho] at h
  have hst:qOp P l.toArray (fun _=>True) r (wpQuiet P l.toArray (fun _=>True) (fun a'=>wpAnyT P md l.toArray Q S b p g (setL (r :: rs) listed) a' w) (pick l rs)) a:=by unfold qOp; simp only [h0]; exact h
  obtain ⟨v,hy,hK⟩:=yieldsIn_of_qOp h0 hst
  have hyi:YieldsIf P l.toArray (fun _=>True) o v a:=hy.imp (fun ⟨hw,hq⟩=>⟨hw,fun w hw'=>read_yields hro (hq w hw')⟩) id
  rw [List.length_cons,show rs.length + 1 + g = (rs.length + g) + 1 by omega]
  exact wpAnyT_firstW h0 hrn (Region.noSelect_spec hs) (fun c a w h=>hQ c a w _ _ h) _ _ _ _ (Region.free_spec h0 hf) (by simpa using hrd) hyi (wpT_firsts hs hQ rs _ _ (fun q hq=>hr q (by simp [hq])) hB' hK)
def pureB (l:List Oper) (i:Nat):Bool:=match l[i]? with | some o=>readOp o | none=>false
theorem reads_of {l:List Oper} {rs:List Nat} (h:rs.all (pureB l) = true):∀ r ∈ rs,∃ o,l[r]? = some o ∧ readOp o = true:=fun r hr=>by
 have h7:=List.all_eq_true.1 h r hr
 unfold pureB at h7
 cases hl:l[r]? with
 | none=>rw [hl] at h7; cases h7
 | some o=>rw [hl] at h7; exact ⟨o,rfl,h7⟩
theorem family (f:World → Prop) (W0:World) (h0:f W0):∃ (ι:Type) (ff:ι → World),Nonempty ι ∧ (∀ p,f (ff p)) ∧ ∀ W,f W → ∃ p,W = ff p:=⟨{W // f W},Subtype.val,⟨⟨W0,h0⟩⟩,fun p=>p.2,fun W h=>⟨⟨W,h⟩,rfl⟩⟩
end
end
section
open Go.RowKit
section
variable {P:Program} {ops:Array Oper} {Q:Exit → Act → World → Prop} {md:Region.Mode} {S S':World → Prop} {b p:Nat → Bool}
theorem wpAnyT_monoS (hSS:∀ W,S' W → S W):∀ (fuel:Nat) (listed:Array Bool) (a:Act) (w:World),wpAnyT P md ops Q S' b p fuel listed a w → wpAnyT P md ops Q S b p fuel listed a w
 | 0,_,_,_,h=>h
 | fuel + 1,_,_,_,h=>⟨h.1,fun i hi=>wpOp_mono (fun a' w' h'=>⟨⟨fun hb=>hSS _ (h'.1.1 hb),h'.1.2⟩,wpAnyT_monoS hSS fuel _ a' w' h'.2⟩) (h.2 i hi)⟩
def segsB2 (md:Region.Mode) (ops:Array Oper) (b p:Nat → Bool) (fw fr:List Nat):List (List Nat × List Nat × Nat) → Array Bool → Bool
 | [],L=>firstsB md ops b fw L && takesB md ops b p fr (setL fw L) && (Region.ready md ops (setL fr (setL fw L))).isEmpty
 | (ws,rs,i) :: ss,L=>firstsB md ops b ws L && takesB md ops b p rs (setL ws L) && decide (Region.ready md ops (setL rs (setL ws L)) = [i]) && !p i && segsB2 md ops b p fw fr ss ((setL rs (setL ws L)).setIfInBounds i true)
def wpSegs2 (P:Program) (l:List Oper) (Q:Exit → Act → World → Prop) (b:Nat → Bool) (fw fr:List Nat):List (List Nat × List Nat × Nat) → (World → Prop) → Act → World → Prop
 | [],S,a,w=>wpQuiet P l.toArray (fun _=>True) (wpQuiet P l.toArray S (fun a'=>Q .normal a' w) (pick l fr)) (pick l fw) a
 | (ws,rs,i) :: ss,S,a,w=>wpQuiet P l.toArray (fun _=>True) (wpQuiet P l.toArray S (fun a'=>match l[i]? with
  | some o=>o.wp P a' w (fun a1 w1=>∃ S':World → Prop,(∀ W,S' W → S W) ∧ (b i = true → S' w1) ∧ wpSegs2 P l Q b fw fr ss S' a1 w1) Q
  | none=>False) (pick l rs)) (pick l ws) a
def lenS2 (fw fr:List Nat):List (List Nat × List Nat × Nat) → Nat
 | []=>fw.length + (fr.length + 0)
 | (ws,rs,_) :: ss=>ws.length + (rs.length + (lenS2 fw fr ss + 1))
theorem wpT_segs2 {l:List Oper} {fw fr:List Nat} (hs:Region.noSelect l.toArray = true) (hQ:∀ c a w d v,Q (.panic c) (Act.put a d v) w → Q (.panic c) a w)
  (hfw:∀ r ∈ fw,∃ o,l[r]? = some o ∧ readOp o = true) (hfr:∀ r ∈ fr,∃ o,l[r]? = some o ∧ readOp o = true) :
  ∀ (ss:List (List Nat × List Nat × Nat)) (S:World → Prop) (listed:Array Bool) (a:Act) (w:World),(∀ s ∈ ss,(∀ r ∈ s.1,∃ o,l[r]? = some o ∧ readOp o = true) ∧ (∀ r ∈ s.2.1,∃ o,l[r]? = some o ∧ readOp o = true) ∧ ∀ o,l[s.2.2]? = some o → o.guard = none) → segsB2 md l.toArray b p fw fr ss listed = true →
   (S w ∨ (fr = [] ∧ ∀ s ∈ ss,s.2.1 = [])) → (∀ (k:Nat) s,ss[k]? = some s → b s.2.2 = false → fr = [] ∧ ∀ s' ∈ ss.drop (k + 1),s'.2.1 = []) → wpSegs2 P l Q b fw fr ss S a w → wpAnyT P md l.toArray Q S b p (lenS2 fw fr ss) listed a w
 | [],S,listed,a,w,_,hB,hSw,_,h=>by
  simp only [segsB2,Bool.and_eq_true] at hB
  obtain ⟨⟨hB0,hB1⟩,hB2⟩:=hB
  rw [lenS2]
  refine wpT_firsts hs hQ fw listed a hfw hB0 (wpQuiet_mono (fun a0 h0=>?_) h)
  have key:∀ a',Q .normal a' w → wpAnyT P md l.toArray Q S b p 0 (setL fr (setL fw listed)) a' w:=fun a' ha=>⟨by simpa using hB2,ha⟩
  rcases hSw with hSw | ⟨hSw,_⟩
  ·exact wpT_reads hs hQ hSw fr _ a0 hfr hB1 (wpQuiet_mono key h0)
  ·subst hSw
   exact key a0 h0
 | (ws,rs,i) :: ss,S,listed,a,w,hg,hB,hSw,ho,h=>by
  simp only [segsB2,Bool.and_eq_true,decide_eq_true_eq,Bool.not_eq_true'] at hB
  obtain ⟨⟨⟨⟨hB0,hB1⟩,hB2⟩,hpi⟩,hB3⟩:=hB
  have key:∀ a',(match l[i]? with
    | some o=>o.wp P a' w (fun a1 w1=>∃ S':World → Prop,(∀ W,S' W → S W) ∧ (b i = true → S' w1) ∧ wpSegs2 P l Q b fw fr ss S' a1 w1) Q
    | none=>False) → wpAnyT P md l.toArray Q S b p (lenS2 fw fr ss + 1) (setL rs (setL ws listed)) a' w:=by
   intro a' ha
   refine ⟨fun h0=>(by rw [hB2] at h0; cases h0),fun j hj=>?_⟩
   rw [hB2] at hj
   obtain rfl:j = i:=by simpa using hj
   cases hl:l[j]? with
   | none=>rw [hl] at ha; exact ha.elim
   | some o=>
    rw [hl] at ha
    have h0:l.toArray[j]? = some o:=by simpa using hl
    have hgn:=(hg (ws,rs,j) (by simp)).2.2 o hl
    unfold wpOp
    simp only [h0]
    have hw1:Region.wanted o (yielded l.toArray a'.tmps) = true:=by simp [Region.wanted,hgn]
    rw [if_pos hw1]
    refine .inl (Oper.wp_mono (fun a1 w1 hh=>?_) ha)
    obtain ⟨S',hSS,hS1,hh⟩:=hh
    refine ⟨⟨fun hb=>hSS _ (hS1 hb),fun h=>by rw [hpi] at h; cases h⟩,wpAnyT_monoS hSS _ _ _ _ ?_⟩
    refine wpT_segs2 hs hQ hfw hfr ss S' _ a1 w1 (fun s hs=>hg s (by simp [hs])) hB3 ?_ (fun k s hk hn=>ho (k + 1) s (by simpa using hk) hn) hh
    cases hbj:b j with
    | true=>exact .inl (hS1 hbj)
    | false=>exact .inr ⟨(ho 0 (ws,rs,j) (by simp) hbj).1,fun s hs=>(ho 0 (ws,rs,j) (by simp) hbj).2 s (by simpa using hs)⟩
  rw [lenS2]
  refine wpT_firsts hs hQ ws listed a (hg (ws,rs,i) (by simp)).1 hB0 (wpQuiet_mono (fun a0 h0=>?_) h)
  rcases hSw with hSw | hSw
  ·exact wpT_reads hs hQ hSw rs _ a0 (hg (ws,rs,i) (by simp)).2.1 hB1 (wpQuiet_mono key h0)
  ·have hrs:rs = []:=hSw.2 (ws,rs,i) (by simp)
   subst hrs
   have h2:=key a0 h0
   rw [List.length_nil,Nat.zero_add]
   exact h2
theorem wpSegs2_step {l:List Oper} {fw fr ws rs:List Nat} {i:Nat} {ss:List (List Nat × List Nat × Nat)} {a:Act} {w:World} {o:Oper} {wl rl:List Oper} (hw:pick l ws = wl) (hp:pick l rs = rl) (ho:l[i]? = some o)
  (h:∀ K:Act → World → Prop,(∀ (S':World → Prop) a1 w1,(∀ W,S' W → S W) → S' w1 → wpSegs2 P l Q b fw fr ss S' a1 w1 → K a1 w1) → ∀ K2:Act → Prop,(∀ a0,wpQuiet P l.toArray S (fun a'=>o.wp P a' w (fun a1 w1=>K a1 w1) Q) rl a0 → K2 a0) → wpQuiet P l.toArray (fun _=>True) K2 wl a):wpSegs2 P l Q b fw fr ((ws,rs,i) :: ss) S a w:=by
 subst hp; subst hw
 simp only [wpSegs2,ho]
 exact h (fun a1 w1=>∃ S':World → Prop,(∀ W,S' W → S W) ∧ (b i = true → S' w1) ∧ wpSegs2 P l Q b fw fr ss S' a1 w1) (fun S' _ _ h1 h2 h3=>⟨S',h1,fun _=>h2,h3⟩) _ (fun _ h=>h)
theorem wpSegs2_last {l:List Oper} {fw fr ws rs:List Nat} {i:Nat} {ss:List (List Nat × List Nat × Nat)} {a:Act} {w:World} {o:Oper} {wl rl:List Oper} (hw:pick l ws = wl) (hp:pick l rs = rl) (ho:l[i]? = some o) (hb:b i = false)
  (h:∀ K:Act → World → Prop,(∀ a1 w1,wpSegs2 P l Q b fw fr ss S a1 w1 → K a1 w1) → ∀ K2:Act → Prop,(∀ a0,wpQuiet P l.toArray S (fun a'=>o.wp P a' w (fun a1 w1=>K a1 w1) Q) rl a0 → K2 a0) → wpQuiet P l.toArray (fun _=>True) K2 wl a):wpSegs2 P l Q b fw fr ((ws,rs,i) :: ss) S a w:=by
 subst hp; subst hw
 simp only [wpSegs2,ho]
 exact h (fun a1 w1=>∃ S':World → Prop,(∀ W,S' W → S W) ∧ (b i = true → S' w1) ∧ wpSegs2 P l Q b fw fr ss S' a1 w1) (fun _ _ h3=>⟨S,fun _ h=>h,fun h=>(by rw [hb] at h; cases h),h3⟩) _ (fun _ h=>h)
theorem wpSegs2_fin {l:List Oper} {fw fr:List Nat} {a:Act} {w:World} {wl rl:List Oper} (hw:pick l fw = wl) (hp:pick l fr = rl)
  (h:∀ K2:Act → Prop,(∀ a0,wpQuiet P l.toArray S (fun a'=>Q .normal a' w) rl a0 → K2 a0) → wpQuiet P l.toArray (fun _=>True) K2 wl a):wpSegs2 P l Q b fw fr [] S a w:=by
 subst hp; subst hw
 exact h _ (fun _ h=>h)
theorem wpSegs2_end {l:List Oper} {a:Act} {w:World} (h:Q .normal a w):wpSegs2 P l Q b [] [] [] S a w:=h
def segsOk2 (l:List Oper) (bs fw fr:List Nat) (ss:List (List Nat × List Nat × Nat)):Bool:=
 Region.noSelect l.toArray && segsB2 .any l.toArray bs.contains (pureB l) fw fr ss (Array.replicate l.toArray.size false) && decide (lenS2 fw fr ss = l.toArray.size)
  && (ss.all fun s=>s.1.all (pureB l) && s.2.1.all (pureB l) && (match l[s.2.2]? with | some o=>o.guard.isNone | none=>true))
  && ((List.range ss.length).all fun k=>match ss[k]? with | some s=>bs.contains s.2.2 || (fr.isEmpty && (ss.drop (k + 1)).all fun s'=>s'.2.1.isEmpty) | none=>true)
  && fw.all (pureB l) && fr.all (pureB l)
theorem wp_region_segs2 {id:Nat} {a:Act} {w:World} {l:List Oper} (bs fw fr:List Nat) (ss:List (List Nat × List Nat × Nat)) (hm:P.follows .mixedOrders = true) (hB:segsOk2 l bs fw fr ss = true) (hQ:∀ c a w d v,Q (.panic c) (Act.put a d v) w → Q (.panic c) a w) (S:World → Prop) (hS:S w.drew)
  (h:wpSegs2 P l Q bs.contains fw fr ss S a w.drew):(Code.region id l.toArray true).wp P Q a w:=by
 simp only [segsOk2,Bool.and_eq_true,decide_eq_true_eq] at hB
 obtain ⟨⟨⟨⟨⟨⟨h1,h3⟩,h4⟩,h6⟩,h7⟩,h8⟩,h9⟩:=hB
 refine wp_region_any hm (wpAny_of_T (S:=S) (b:=bs.contains) (p:=pureB l) _ _ _ _ ?_)
 refine Eq.mp (congrArg (fun k=>wpAnyT P .any l.toArray Q S bs.contains (pureB l) k (Array.replicate l.toArray.size false) a w.drew) h4) ?_
 refine wpT_segs2 h1 hQ (reads_of h8) (reads_of h9) ss S _ a w.drew (fun s hs=>?_) h3 (.inl hS) (fun k s hk hn=>?_) h
 ·have:=List.all_eq_true.1 h6 s hs
  simp only [Bool.and_eq_true] at this
  refine ⟨reads_of this.1.1,reads_of this.1.2,fun o ho=>?_⟩
  have h8:=this.2
  rw [ho] at h8
  simpa using h8
 ·have hkl:k < ss.length:=(List.getElem?_eq_some_iff.1 hk).1
  have h8:=List.all_eq_true.1 h7 k (List.mem_range.2 hkl)
  rw [hk] at h8
  simp only [Bool.or_eq_true,Bool.and_eq_true] at h8
  rcases h8 with h8 | ⟨h8,h9⟩
  ·rw [hn] at h8; cases h8
  ·refine ⟨by simpa using h8,fun s' hs'=>?_⟩
   have:=List.all_eq_true.1 h9 s' hs'
   simpa using this
theorem growFam (w:World):∃ (ι:Type) (ff:ι → World),Nonempty ι ∧ (∃ p,w = ff p) ∧ (∀ p,Below w.heap.size w (ff p)) ∧ ∀ W,Below w.heap.size w W → ∃ p,W = ff p:=
 ⟨{W // Below w.heap.size w W},Subtype.val,⟨⟨w,Below.refl _ w⟩⟩,⟨⟨w,Below.refl _ w⟩,rfl⟩,fun p=>p.2,fun W h=>⟨⟨W,h⟩,rfl⟩⟩
end
end
section
open Go.RowKit
section
variable {P:Program} {ops:Array Oper} {Q:Exit → Act → World → Prop} {md:Region.Mode} {S S':World → Prop} {b p:Nat → Bool}
def segsB3 (md:Region.Mode) (ops:Array Oper) (b p:Nat → Bool) (fw fr:List Nat):List (List Nat × List Nat × Nat) → Array Bool → Bool
 | [],L=>firstsB md ops b fw L && takesB md ops b p fr (setL fw L) && (Region.ready md ops (setL fr (setL fw L))).isEmpty
 | (ws,rs,i) :: ss,L=>firstsB md ops b ws L && takesB md ops b p rs (setL ws L) && decide (Region.ready md ops (setL rs (setL ws L)) = [i]) && !p i && segsB3 md ops b p fw fr ss ((setL rs (setL ws L)).setIfInBounds i true)
def wpSegs3 (P:Program) (l:List Oper) (Q:Exit → Act → World → Prop) (b:Nat → Bool) (fw fr:List Nat):List (List Nat × List Nat × Nat) → (World → Prop) → Act → World → Prop
 | [],S,a,w=>wpQuiet P l.toArray (fun _=>True) (wpQuiet P l.toArray S (fun a'=>Q .normal a' w) (pick l fr)) (pick l fw) a
 | (ws,rs,i) :: ss,S,a,w=>wpQuiet P l.toArray (fun _=>True) (wpQuiet P l.toArray S (fun a'=>match l[i]? with
  | some o=>(Region.wanted o (yielded l.toArray a'.tmps) = true ∧ o.wp P a' w (fun a1 w1=>∃ S':World → Prop,(∀ W,S' W → S W) ∧ (b i = true → S' w1) ∧ wpSegs3 P l Q b fw fr ss S' a1 w1) Q) ∨ (Region.wanted o (yielded l.toArray a'.tmps) = false ∧ ∃ S':World → Prop,(∀ W,S' W → S W) ∧ (b i = true → S' w) ∧ wpSegs3 P l Q b fw fr ss S' (a'.put o.dst undef) w)
  | none=>False) (pick l rs)) (pick l ws) a
def lenS3 (fw fr:List Nat):List (List Nat × List Nat × Nat) → Nat
 | []=>fw.length + (fr.length + 0)
 | (ws,rs,_) :: ss=>ws.length + (rs.length + (lenS3 fw fr ss + 1))
theorem wpT_segs3 {l:List Oper} {fw fr:List Nat} (hs:Region.noSelect l.toArray = true) (hQ:∀ c a w d v,Q (.panic c) (Act.put a d v) w → Q (.panic c) a w)
  (hfw:∀ r ∈ fw,∃ o,l[r]? = some o ∧ readOp o = true) (hfr:∀ r ∈ fr,∃ o,l[r]? = some o ∧ readOp o = true) :
  ∀ (ss:List (List Nat × List Nat × Nat)) (S:World → Prop) (listed:Array Bool) (a:Act) (w:World),(∀ s ∈ ss,(∀ r ∈ s.1,∃ o,l[r]? = some o ∧ readOp o = true) ∧ (∀ r ∈ s.2.1,∃ o,l[r]? = some o ∧ readOp o = true)) → segsB3 md l.toArray b p fw fr ss listed = true →
   (S w ∨ (fr = [] ∧ ∀ s ∈ ss,s.2.1 = [])) → (∀ (k:Nat) s,ss[k]? = some s → b s.2.2 = false → fr = [] ∧ ∀ s' ∈ ss.drop (k + 1),s'.2.1 = []) → wpSegs3 P l Q b fw fr ss S a w → wpAnyT P md l.toArray Q S b p (lenS3 fw fr ss) listed a w
 | [],S,listed,a,w,_,hB,hSw,_,h=>by
  simp only [segsB3,Bool.and_eq_true] at hB
  obtain ⟨⟨hB0,hB1⟩,hB2⟩:=hB
  rw [lenS3]
  refine wpT_firsts hs hQ fw listed a hfw hB0 (wpQuiet_mono (fun a0 h0=>?_) h)
  have key:∀ a',Q .normal a' w → wpAnyT P md l.toArray Q S b p 0 (setL fr (setL fw listed)) a' w:=fun a' ha=>⟨by simpa using hB2,ha⟩
  rcases hSw with hSw | ⟨hSw,_⟩
  ·exact wpT_reads hs hQ hSw fr _ a0 hfr hB1 (wpQuiet_mono key h0)
  ·subst hSw
   exact key a0 h0
 | (ws,rs,i) :: ss,S,listed,a,w,hg,hB,hSw,ho,h=>by
  simp only [segsB3,Bool.and_eq_true,decide_eq_true_eq,Bool.not_eq_true'] at hB
  obtain ⟨⟨⟨⟨hB0,hB1⟩,hB2⟩,hpi⟩,hB3⟩:=hB
  have key:∀ a',(match l[i]? with
    | some o=>(Region.wanted o (yielded l.toArray a'.tmps) = true ∧ o.wp P a' w (fun a1 w1=>∃ S':World → Prop,(∀ W,S' W → S W) ∧ (b i = true → S' w1) ∧ wpSegs3 P l Q b fw fr ss S' a1 w1) Q) ∨ (Region.wanted o (yielded l.toArray a'.tmps) = false ∧ ∃ S':World → Prop,(∀ W,S' W → S W) ∧ (b i = true → S' w) ∧ wpSegs3 P l Q b fw fr ss S' (a'.put o.dst undef) w)
    | none=>False) → wpAnyT P md l.toArray Q S b p (lenS3 fw fr ss + 1) (setL rs (setL ws listed)) a' w:=by
   intro a' ha
   refine ⟨fun h0=>(by rw [hB2] at h0; cases h0),fun j hj=>?_⟩
   rw [hB2] at hj
   obtain rfl:j = i:=by simpa using hj
   cases hl:l[j]? with
   | none=>rw [hl] at ha; exact ha.elim
   | some o=>
    rw [hl] at ha
    have h0:l.toArray[j]? = some o:=by simpa using hl
    unfold wpOp
    simp only [h0]
    rcases ha with ⟨hw1,ha⟩ | ⟨hw1,S',hSS,hS1,hh⟩
    ·rw [if_pos hw1]
     refine .inl (Oper.wp_mono (fun a1 w1 hh=>?_) ha)
     obtain ⟨S',hSS,hS1,hh⟩:=hh
     refine ⟨⟨fun hb=>hSS _ (hS1 hb),fun h=>by rw [hpi] at h; cases h⟩,wpAnyT_monoS hSS _ _ _ _ ?_⟩
     refine wpT_segs3 hs hQ hfw hfr ss S' _ a1 w1 (fun s hs=>hg s (by simp [hs])) hB3 ?_ (fun k s hk hn=>ho (k + 1) s (by simpa using hk) hn) hh
     cases hbj:b j with
     | true=>exact .inl (hS1 hbj)
     | false=>exact .inr ⟨(ho 0 (ws,rs,j) (by simp) hbj).1,fun s hs=>(ho 0 (ws,rs,j) (by simp) hbj).2 s (by simpa using hs)⟩
    ·rw [if_neg (by rw [hw1]; decide)]
     refine ⟨⟨fun hb=>hSS _ (hS1 hb),fun h=>by rw [hpi] at h; cases h⟩,wpAnyT_monoS hSS _ _ _ _ ?_⟩
     refine wpT_segs3 hs hQ hfw hfr ss S' _ _ w (fun s hs=>hg s (by simp [hs])) hB3 ?_ (fun k s hk hn=>ho (k + 1) s (by simpa using hk) hn) hh
     cases hbj:b j with
     | true=>exact .inl (hS1 hbj)
     | false=>exact .inr ⟨(ho 0 (ws,rs,j) (by simp) hbj).1,fun s hs=>(ho 0 (ws,rs,j) (by simp) hbj).2 s (by simpa using hs)⟩
  rw [lenS3]
  refine wpT_firsts hs hQ ws listed a (hg (ws,rs,i) (by simp)).1 hB0 (wpQuiet_mono (fun a0 h0=>?_) h)
  rcases hSw with hSw | hSw
  ·exact wpT_reads hs hQ hSw rs _ a0 (hg (ws,rs,i) (by simp)).2 hB1 (wpQuiet_mono key h0)
  ·have hrs:rs = []:=hSw.2 (ws,rs,i) (by simp)
   subst hrs
   have h2:=key a0 h0
   rw [List.length_nil,Nat.zero_add]
   exact h2
theorem wpSegs3_step {l:List Oper} {fw fr ws rs:List Nat} {i:Nat} {ss:List (List Nat × List Nat × Nat)} {a:Act} {w:World} {o:Oper} {wl rl:List Oper} (hw:pick l ws = wl) (hp:pick l rs = rl) (ho:l[i]? = some o)
  (h:∀ K:Act → World → Prop,(∀ (S':World → Prop) a1 w1,(∀ W,S' W → S W) → S' w1 → wpSegs3 P l Q b fw fr ss S' a1 w1 → K a1 w1) → ∀ K2:Act → Prop,(∀ a0,wpQuiet P l.toArray S (fun a'=>(Region.wanted o (yielded l.toArray a'.tmps) = true ∧ o.wp P a' w (fun a1 w1=>K a1 w1) Q) ∨ (Region.wanted o (yielded l.toArray a'.tmps) = false ∧ K (a'.put o.dst undef) w)) rl a0 → K2 a0) → wpQuiet P l.toArray (fun _=>True) K2 wl a):wpSegs3 P l Q b fw fr ((ws,rs,i) :: ss) S a w:=by
 subst hp; subst hw
 simp only [wpSegs3,ho]
 exact h (fun a1 w1=>∃ S':World → Prop,(∀ W,S' W → S W) ∧ (b i = true → S' w1) ∧ wpSegs3 P l Q b fw fr ss S' a1 w1) (fun S' _ _ h1 h2 h3=>⟨S',h1,fun _=>h2,h3⟩) _ (fun _ h=>h)
theorem wpSegs3_end {l:List Oper} {a:Act} {w:World} (h:Q .normal a w):wpSegs3 P l Q b [] [] [] S a w:=h
def segsOk3 (l:List Oper) (bs fw fr:List Nat) (ss:List (List Nat × List Nat × Nat)):Bool:=
 Region.noSelect l.toArray && segsB3 .any l.toArray bs.contains (pureB l) fw fr ss (Array.replicate l.toArray.size false) && decide (lenS3 fw fr ss = l.toArray.size)
  && (ss.all fun s=>s.1.all (pureB l) && s.2.1.all (pureB l))
  && ((List.range ss.length).all fun k=>match ss[k]? with | some s=>bs.contains s.2.2 || (fr.isEmpty && (ss.drop (k + 1)).all fun s'=>s'.2.1.isEmpty) | none=>true)
  && fw.all (pureB l) && fr.all (pureB l)
theorem wp_region_segs3 {id:Nat} {a:Act} {w:World} {l:List Oper} (bs fw fr:List Nat) (ss:List (List Nat × List Nat × Nat)) (hm:P.follows .mixedOrders = true) (hB:segsOk3 l bs fw fr ss = true) (hQ:∀ c a w d v,Q (.panic c) (Act.put a d v) w → Q (.panic c) a w) (S:World → Prop) (hS:S w.drew)
  (h:wpSegs3 P l Q bs.contains fw fr ss S a w.drew):(Code.region id l.toArray true).wp P Q a w:=by
 simp only [segsOk3,Bool.and_eq_true,decide_eq_true_eq] at hB
 obtain ⟨⟨⟨⟨⟨⟨h1,h3⟩,h4⟩,h6⟩,h7⟩,h8⟩,h9⟩:=hB
 refine wp_region_any hm (wpAny_of_T (S:=S) (b:=bs.contains) (p:=pureB l) _ _ _ _ ?_)
 refine Eq.mp (congrArg (fun k=>wpAnyT P .any l.toArray Q S bs.contains (pureB l) k (Array.replicate l.toArray.size false) a w.drew) h4) ?_
 refine wpT_segs3 h1 hQ (reads_of h8) (reads_of h9) ss S _ a w.drew (fun s hs=>?_) h3 (.inl hS) (fun k s hk hn=>?_) h
 ·have:=List.all_eq_true.1 h6 s hs
  simp only [Bool.and_eq_true] at this
  exact ⟨reads_of this.1,reads_of this.2⟩
 ·have hkl:k < ss.length:=(List.getElem?_eq_some_iff.1 hk).1
  have h8:=List.all_eq_true.1 h7 k (List.mem_range.2 hkl)
  rw [hk] at h8
  simp only [Bool.or_eq_true,Bool.and_eq_true] at h8
  rcases h8 with h8 | ⟨h8,h9⟩
  ·rw [hn] at h8; cases h8
  ·refine ⟨by simpa using h8,fun s' hs'=>?_⟩
   have:=List.all_eq_true.1 h9 s' hs'
   simpa using this
end
end
section
open Go.Sort
section
variable {P:Program} {ops:Array Oper} {md:Region.Mode} {C:World → Prop}
def wpAnyM (P:Program) (md:Region.Mode) (ops:Array Oper) (C:World → Prop) (n:Nat) (L:Array Bool → Act → Prop):Nat → Array Bool → Act → Prop
 | 0,listed,a=>L listed a
 | f + 1,listed,a=>Region.ready md ops listed ≠ [] ∧ ∀ i ∈ Region.ready md ops listed,i < n ∧ qOp P ops C i (wpAnyM P md ops C n L f (listed.setIfInBounds i true)) a
theorem wpAny_of_headM {n g:Nat} {L:Array Bool → Act → Prop} {Q':Exit → Act → World → Prop} (hL:∀ listed a w,C w → L listed a → wpAny P md ops Q' g listed a w) :
  ∀ (f:Nat) (listed:Array Bool) (a:Act) (w:World),C w → wpAnyM P md ops C n L f listed a → wpAny P md ops Q' (f + g) listed a w
 | 0,listed,a,w,hw,h=>by rw [Nat.zero_add]; exact hL _ _ _ hw h
 | f + 1,listed,a,w,hw,h=>by
  rw [show f + 1 + g = (f + g) + 1 by omega]
  exact ⟨fun h0=>absurd h0 h.1,fun i hi=>wpOp_of_qOp hw (fun a' w' hw' h'=>wpAny_of_headM hL f _ a' w' hw' h') (h.2 i hi).2⟩
def sinkF (md:Region.Mode) (ops:Array Oper) (k n:Nat):Bool:=
 (List.range n).all fun i=>decide (i < k) || (List.range (n + 1)).any fun j=>decide (i < j) && Region.waitsFor md ops j i
theorem tailF_waits {k n:Nat} {listed:Array Bool} (hs:sinkF md ops k n = true) (hc:Region.chainB md ops n = true) (hn:n < ops.size) (inv:HeadInv md ops n listed) :
  ∀ (d i:Nat),n - i = d → k ≤ i → i < n → listed.getD i true = false → ∀ t,n ≤ t → t ∉ Region.ready md ops listed:=by
 intro d
 induction d using Nat.strongRecOn with
 | _ d ih=>
  intro i hd hki hi hun t ht hr
  obtain ⟨_,ot,hot,hall⟩:=mem_ready.1 hr
  have htlt:t < ops.size:=(Array.getElem?_eq_some_iff.1 hot).1
  by_cases htn:t = n
  ·subst htn
   have h1:=List.all_eq_true.1 hs i (List.mem_range.2 hi)
   rw [Bool.or_eq_true] at h1
   obtain ⟨j,hj,hj2⟩:=List.any_eq_true.1 (h1.resolve_left (by simp; omega))
   simp only [Bool.and_eq_true,decide_eq_true_eq] at hj2
   obtain ⟨oj,hoj,e,he,hb,hon⟩:=Region.waitsFor_spec hj2.2
   have hjle:j ≤ t:=by have:=List.mem_range.1 hj; omega
   by_cases hjt:j = t
   ·subst hjt
    have:oj = ot:=Option.some.inj (hoj.symm.trans hot)
    subst this
    have h2:=hall e he hb
    rw [hon,getD_both hun] at h2
    cases h2
   ·cases hl:listed.getD j false with
    | true=>
     have h2:=inv.closed j oj hoj hl e he hb
     rw [hon,getD_both hun] at h2
     cases h2
    | false=>
     have hjs:j < listed.size:=by rw [inv.size]; omega
     exact ih (t - j) (by omega) j rfl (by omega) (by omega) (getD_in hjs hl) t (Nat.le_refl _) hr
  ·have h1:=List.all_eq_true.1 hc t (List.mem_range.2 htlt)
   simp only [Bool.or_eq_true,decide_eq_true_eq] at h1
   rcases h1 with h1 | h1
   ·omega
   ·obtain ⟨o',ho',e,he,hb,hon⟩:=Region.waitsFor_spec h1
    have:o' = ot:=Option.some.inj (ho'.symm.trans hot)
    subst this
    have h2:=hall e he hb
    rw [hon,getD_both (inv.tail (t - 1) (by omega) (by omega))] at h2
    cases h2
theorem wpAnyM_first {k0 n i:Nat} {oi:Oper} {v:Value} {L:Array Bool → Act → Prop} (hi:ops[i]? = some oi) (hsel:∀ (j:Nat) (o:Oper) cs b,ops[j]? = some o → o.op ≠ .select cs b)
  (hs:sinkF md ops k0 n = true) (hc:Region.chainB md ops n = true) (hn:n < ops.size) (hki:k0 ≤ i) (hin:i < n)
  (hdone:∀ listed a,L listed a → ∀ j ∈ Region.ready md ops listed,n ≤ j) :
  ∀ (f:Nat) (listed:Array Bool) (a:Act),HeadInv md ops n listed →
   (∀ j oj,ops[j]? = some oj → j ≠ i → listed.getD j true = false → (∀ e ∈ oj.after,Region.binds md e = true → e.on ≠ i) → oi.apart ops oj = true) →
   i ∈ Region.ready md ops listed → YieldsIn P ops C oi v a →
   wpAnyM P md ops C n L f (listed.setIfInBounds i true) (a.put oi.dst v) → wpAnyM P md ops C n L (f + 1) listed a:=by
 intro f
 induction f with
 | zero=>
  intro listed a inv _ hr hy H
  have hun:=(mem_ready.1 hr).1
  refine ⟨fun h=>(by rw [h] at hr; cases hr),fun j hj=>?_⟩
  have hjn:j < n:=(Nat.lt_or_ge j n).resolve_right fun h=>tailF_waits hs hc hn inv _ i rfl hki hin hun j h hj
  refine ⟨hjn,?_⟩
  by_cases hji:j = i
  ·subst hji; exact hy.qOp hi H
  ·have:=hdone _ _ H j (ready_mono hj hji)
   omega
 | succ f ih=>
  intro listed a inv hfree hr hy H
  have hun:=(mem_ready.1 hr).1
  refine ⟨fun h=>(by rw [h] at hr; cases hr),fun j hj=>?_⟩
  have hjn:j < n:=(Nat.lt_or_ge j n).resolve_right fun h=>tailF_waits hs hc hn inv _ i rfl hki hin hun j h hj
  refine ⟨hjn,?_⟩
  by_cases hji:j = i
  ·subst hji; exact hy.qOp hi H
  ·have h1:=(H.2 j (ready_mono hj hji)).2
   obtain ⟨hjun,oj,hoj,hall⟩:=mem_ready.1 hj
   have hnot:∀ e ∈ oj.after,Region.binds md e = true → e.on ≠ i:=fun e he hb heq=>by
    have h1:=hall e he hb
    rw [heq,getD_both hun] at h1
    cases h1
   have h2:=qOp_put hoj (hfree j oj hoj hji hjun hnot) (fun cs b=>hsel i oi cs b hi) (fun cs b=>hsel j oj cs b hoj) hy h1
   have hfree':∀ k ok,ops[k]? = some ok → k ≠ i → (listed.setIfInBounds j true).getD k true = false →
     (∀ e ∈ ok.after,Region.binds md e = true → e.on ≠ i) → oi.apart ops ok = true:=fun k ok hk hki hun hno=>by
    refine hfree k ok hk hki ?_ hno
    by_cases hjk:j = k
    ·subst hjk; exact hjun
    ·rw [getD_set_ne true hjk] at hun; exact hun
   refine qOp_mono (fun a' h3=>ih (listed.setIfInBounds j true) a' (inv.set hj hjn) hfree' (ready_mono hr (Ne.symm hji)) h3.1 ?_) h2
   rw [Array.setIfInBounds_comm _ _ hji]
   exact h3.2
theorem wpAnyM_lex {k0 n g:Nat} {Lq:Act → Prop} (hsel:Region.noSelect ops = true) (hs:sinkF md ops k0 n = true) (hc:Region.chainB md ops n = true) (hn:n < ops.size) :
  ∀ (l:List Oper) (k:Nat) (listed:Array Bool) (a:Act),k0 ≤ k → (∀ j,j < l.length → l[j]? = ops[k + j]?) → k + l.length = n → HeadInv md ops n listed →
  Region.lexHead md ops g l.length k listed = true → wpQuiet P ops C Lq l a →
  wpAnyM P md ops C n (fun listed' a'=>Region.seqB md ops g n listed' = true ∧ Lq a') l.length listed a
 | [],k,listed,a,_,_,hk,_,hB,h=>by
  have:k = n:=by simpa using hk
  subst this
  exact ⟨by simpa [Region.lexHead] using hB,h⟩
 | o :: l,k,listed,a,hk0,hl,hk,inv,hB,h=>by
  have h0:ops[k]? = some o:=by simpa using (hl 0 (by simp)).symm
  simp only [List.length_cons,Region.lexHead,Bool.and_eq_true] at hB
  obtain ⟨⟨hr,hf⟩,hB'⟩:=hB
  have hkn:k < n:=by simp only [List.length_cons] at hk; omega
  have hr':k ∈ Region.ready md ops listed:=by simpa using hr
  have hst:qOp P ops C k (wpQuiet P ops C Lq l) a:=by unfold qOp; simp only [h0]; exact h
  obtain ⟨v,hy,hK⟩:=yieldsIn_of_qOp h0 hst
  exact wpAnyM_first h0 (Region.noSelect_spec hsel) hs hc hn hk0 hkn (fun listed' a' hL=>seqB_ready hL.1) l.length listed a inv (Region.free_spec h0 hf) hr' hy
   (wpAnyM_lex hsel hs hc hn l (k + 1) _ _ (by omega) (fun j hj=>by have:=hl (j + 1) (by simp; omega); simpa [Nat.add_assoc,Nat.add_comm 1 j] using this) (by simp only [List.length_cons] at hk; omega) (inv.set hr' hkn) hB' hK)
def lexTailF (ops:Array Oper) (k n:Nat) (listed:Array Bool):Bool:=
 Region.noSelect ops && decide (n < ops.size) && decide (k ≤ n) && sinkF .any ops k n && Region.chainB .any ops n && Region.lexHead .any ops (ops.size - n) (n - k) k listed
theorem wpAny_tail {k n:Nat} {Q:Exit → Act → World → Prop} {a:Act} {w:World} {l:List Oper} {listed:Array Bool} (hB:lexTailF l.toArray k n listed = true) (inv:HeadInv .any l.toArray n listed) (hC:C w)
  (h:wpQuiet P l.toArray C (fun a'=>∀ w',C w' → wpList P l.toArray Q (l.drop n) a' w') ((l.take n).drop k) a):wpAny P .any l.toArray Q (l.length - k) listed a w:=by
 simp only [lexTailF,Bool.and_eq_true,decide_eq_true_eq] at hB
 obtain ⟨⟨⟨⟨⟨hsel,hn⟩,hkn⟩,hs⟩,hc⟩,hlex⟩:=hB
 have hn':n < l.length:=by simpa using hn
 have htl:((l.take n).drop k).length = n - k:=by simp; omega
 have hdl:(l.drop n).length = l.toArray.size - n:=by simp
 have H:=wpAnyM_lex (md:=.any) (g:=l.toArray.size - n) hsel hs hc hn ((l.take n).drop k) k listed a (Nat.le_refl _) (fun j hj=>by
  have hj':j < n - k:=by rw [htl] at hj; exact hj
  rw [List.getElem?_drop,List.getElem?_take,if_pos (by omega)]; simp) (by rw [htl]; omega) inv (by rw [htl]; exact hlex) h
 have:=wpAny_of_headM (Q':=Q) (g:=l.toArray.size - n) (fun listed a' w' hw hL=>by
  have:=wpAny_of_seq (md:=.any) (Q':=Q) (l.drop n) n listed a' w' (fun j=>by simp [List.getElem?_drop]) (by rw [hdl]; exact hL.1) (hL.2 w' hw)
  rwa [hdl] at this) _ _ _ _ hC H
 rw [htl,show n - k + (l.toArray.size - n) = l.length - k by simp; omega] at this
 exact this
theorem inv_start (l:List Oper) (n:Nat):HeadInv .any l.toArray n (Array.replicate l.length false):=
 ⟨by simp,fun j oj _ hl=>(by rw [getD_replicate_false] at hl; cases hl),fun t _ ht=>getD_in (by simpa using ht) (getD_replicate_false _ _)⟩
theorem wp_region_quiet_tail {id:Nat} {Q:Exit → Act → World → Prop} {a:Act} {w:World} {l:List Oper} (n:Nat) (hm:P.follows .mixedOrders = true) (hB:lexTailF l.toArray 0 n (Array.replicate l.length false) = true) (hC:C { w with drawn:=w.drawn + 1 })
  (h:wpQuiet P l.toArray C (fun a'=>∀ w',C w' → wpList P l.toArray Q (l.drop n) a' w') (l.take n) a):(Code.region id l.toArray true).wp P Q a w:=by
 refine wp_region_any hm ?_
 have:=wpAny_tail (k:=0) hB (inv_start l n) hC (by simpa using h)
 simpa using this
theorem wp_region_drewN_tail {id:Nat} {Q:Exit → Act → World → Prop} {a:Act} {w:World} {l:List Oper} (n:Nat) (hm:P.follows .mixedOrders = true) (hB:lexTailF l.toArray 0 n (Array.replicate l.length false) = true)
  (h:wpQuiet P l.toArray (fun w'=>∃ m,w' = w.drewN m) (fun a'=>∀ w',(∃ m,w' = w.drewN m) → wpList P l.toArray Q (l.drop n) a' w') (l.take n) a):(Code.region id l.toArray true).wp P Q a w:=
 wp_region_quiet_tail (C:=fun w'=>∃ m,w' = w.drewN m) n hm hB ⟨1,rfl⟩ h
end
end
section
open Go.RowKit
def onlyN (K:Act → World → Prop):Exit → Act → World → Prop
 | .normal,a,w=>K a w
 | _,_,_=>False
theorem rowsIn_any {n:Nat} {P:Program} {row:String} {args:Array Value} {w:World} {R:Value → World → Prop} (l:Nat) (h:Rows P row args w R):RowsIn (Fence.wide.inRound l) n P row args w R:=
 fun c cs _=>let ⟨v,w',r,s⟩:=h c cs; ⟨v,w',r,stepsIn_wide.2 s⟩
theorem operIn {n:Nat} {P:Program} {o:Oper} {a:Act} {w:World} {K:Act → World → Prop} {Q:Exit → Act → World → Prop} {K':Act → World → Prop} (l:Nat) (hd:∀ c,o.op ≠ .defer c)
  (h:o.wp P a w K (onlyN K')):o.wpIn (Fence.wide.inRound l) n P a w K Q:=by
 refine ⟨fun _ _=>trivial,?_⟩
 rw [Oper.semAt_plain _ _ _ hd]
 unfold Oper.wp at h
 generalize (execOp a.eval o).run P w = r at h ⊢
 cases r with
 | ok x w'=>
  cases x <;> simp only [Oper.upon,Oper.uponIn] at h ⊢
  case value=>exact h
  case skip=>exact h
  case defer=>exact h
  case enter=>
   refine ⟨(fun hh=>by cases hh),CallsIn.inRound l (callsIn_wide.2 (h.mono fun e w2 he=>?_))⟩
   cases e
   case returned=>exact he
   case panicked=>exact he.elim
   case outgrown=>obtain ⟨_,_,hx⟩:=he; exact hx.elim
  case row=>exact ⟨(fun hh=>by cases hh),rowsIn_any l h⟩
 | halt x w'=>
  cases x <;> simp only [Oper.upon,Oper.uponIn] at h ⊢
  exact h.elim
theorem wpAnyIn_of_wpAny {n:Nat} {P:Program} {md:Region.Mode} {ops:Array Oper} {Q:Exit → Act → World → Prop} (l:Nat) (hd:∀ (i:Nat) o,ops[i]? = some o → ∀ c,o.op ≠ .defer c) :
  ∀ (fuel:Nat) (listed:Array Bool) (a:Act) (w:World),wpAny P md ops (onlyN (Q .normal)) fuel listed a w → wpAnyIn (Fence.wide.inRound l) n P md ops Q fuel listed a w
 | 0,_,_,_,h=>h
 | fuel + 1,listed,a,w,h=>by
  refine ⟨h.1,fun i hi=>?_⟩
  have h2:=h.2 i hi
  unfold wpOp at h2
  unfold wpOpIn
  cases ho:ops[i]? with
  | none=>
   rw [ho] at h2
   exact wpAnyIn_of_wpAny l hd fuel _ _ _ h2
  | some o=>
   rw [ho] at h2
   dsimp only at h2 ⊢
   split
   ·rename_i hw
    rw [if_pos hw] at h2
    rcases h2 with h2 | ⟨_,_,_,hx⟩
    ·exact operIn (K':=Q .normal) l (hd i o ho) (Oper.wp_mono (fun a w=>wpAnyIn_of_wpAny l hd fuel _ a w) h2)
    ·exact hx.elim
   ·rename_i hw
    rw [if_neg hw] at h2
    exact ⟨fun _ _=>trivial,wpAnyIn_of_wpAny l hd fuel _ _ _ h2⟩
theorem noDefer {ops:Array Oper} (h:ops.all (fun o=>match o.op with | .defer _=>false | _=>true) = true):∀ (i:Nat) o,ops[i]? = some o → ∀ c,o.op ≠ .defer c:=by
 intro i o ho c hc
 have:=(Array.all_eq_true.1 h) i (Array.getElem?_eq_some_iff.1 ho).1
 rw [(Array.getElem?_eq_some_iff.1 ho).2,hc] at this
 cases this
theorem wpIn_region_out {n:Nat} {P:Program} {ops:Array Oper} {Q:Exit → Act → World → Prop} {id:Nat} {a:Act} {w:World} (l:Nat) (hm:P.follows .mixedOrders = true)
  (hd:ops.all (fun o=>match o.op with | .defer _=>false | _=>true) = true)
  (h:wpAny P .any ops (onlyN (Q .normal)) ops.size (Array.replicate ops.size false) a w.drew):(Code.region id ops true).wpIn (Fence.wide.inRound l) n P Q a w:=
 wpIn_region_any hm (wpAnyIn_of_wpAny l (noDefer hd) _ _ _ _ h)
end
section
open Go.RowKit
structure Rep (α:Type) where
 n:Nat
 rel:World → (Nat → Prop) → α → List Value → Prop
 len:∀ {w F x cs},rel w F x cs → cs.length = n
 keep:∀ {w w':World} {F:Nat → Prop} {x cs},rel w F x cs → (∀ b,F b → w'.heap[b]? = w.heap[b]?) → rel w' F x cs
 more:∀ {w F G x cs},rel w F x cs → (∀ b,F b → G b) → rel w G x cs
def Rep.flat {α:Type} (n:Nat) (enc:α → List Value) (h:∀ x,(enc x).length = n):Rep α:=
 ⟨n,fun _ _ x cs=>cs = enc x,fun e=>by subst e; exact h _,fun e _=>e,fun e _=>e⟩
def strR:Rep ByteArray:=Rep.flat 1 (fun s=>[.string s]) (fun _=>rfl)
def intR:Rep Int:=Rep.flat 1 (fun x=>[.int .i64 x]) (fun _=>rfl)
def Lay {α:Type} (R:Rep α) (w:World) (F:Nat → Prop) (l:List α) (cs:List Value):Prop:=
 cs.length = l.length * R.n ∧ ∀ (k:Nat) (x:α),l[k]? = some x → R.rel w F x ((cs.drop (k * R.n)).take R.n)
section
variable {α:Type} {R:Rep α} {w w':World} {F G:Nat → Prop} {l:List α} {cs:List Value}
theorem Lay.nil_:Lay R w F [] []:=⟨by simp,fun k x h=>by simp at h⟩
theorem Lay.keep (h:Lay R w F l cs) (hk:∀ b,F b → w'.heap[b]? = w.heap[b]?):Lay R w' F l cs:=⟨h.1,fun k x hx=>R.keep (h.2 k x hx) hk⟩
theorem Lay.more (h:Lay R w F l cs) (hk:∀ b,F b → G b):Lay R w G l cs:=⟨h.1,fun k x hx=>R.more (h.2 k x hx) hk⟩
theorem Lay.snoc {x:α} {a:List Value} (h:Lay R w F l cs) (ha:R.rel w F x a):Lay R w F (l ++ [x]) (cs ++ a):=by
 have hl:=R.len ha
 refine ⟨by simp [h.1,hl,Nat.add_mul],fun k y hy=>?_⟩
 by_cases hk:k < l.length
 ·rw [List.getElem?_append_left hk] at hy
  have h2:=h.2 k y hy
  have h3:(k + 1) * R.n ≤ cs.length:=by rw [h.1]; exact Nat.mul_le_mul_right _ hk
  rw [Nat.add_mul,Nat.one_mul] at h3
  rw [List.drop_append_of_le_length (by omega),List.take_append_of_le_length (by simp; omega)]
  exact h2
 ·have hk2:k = l.length:=by
   have:=(List.getElem?_eq_some_iff.1 hy).1
   simp at this; omega
  subst hk2
  rw [List.getElem?_append_right (Nat.le_refl _)] at hy
  simp at hy
  subst hy
  rw [← h.1,List.drop_left' rfl,List.take_of_length_le (by omega)]
  exact ha
theorem Lay.app {l':List α} {cs':List Value} (h:Lay R w F l cs) (h':Lay R w F l' cs'):Lay R w F (l ++ l') (cs ++ cs'):=by
 refine ⟨by simp [h.1,h'.1,Nat.add_mul],fun k y hy=>?_⟩
 by_cases hk:k < l.length
 ·rw [List.getElem?_append_left hk] at hy
  have h2:=h.2 k y hy
  have h3:(k + 1) * R.n ≤ cs.length:=by rw [h.1]; exact Nat.mul_le_mul_right _ hk
  rw [Nat.add_mul,Nat.one_mul] at h3
  rw [List.drop_append_of_le_length (by omega),List.take_append_of_le_length (by simp; omega)]
  exact h2
 ·rw [List.getElem?_append_right (by omega)] at hy
  have:=h'.2 _ y hy
  rw [show (cs ++ cs').drop (k * R.n) = cs'.drop ((k - l.length) * R.n) by
   rw [List.drop_append,List.drop_eq_nil_of_le (by rw [h.1]; exact Nat.mul_le_mul_right _ (by omega)),List.nil_append,h.1,Nat.sub_mul]]
  exact this
theorem Lay.one {x:α} {a:List Value} (ha:R.rel w F x a):Lay R w F [x] a:=by simpa using Lay.nil_.snoc ha
theorem Lay.drop (h:Lay R w F l cs) (k:Nat):Lay R w F (l.drop k) (cs.drop (k * R.n)):=by
 refine ⟨by simp [h.1,Nat.sub_mul],fun j x hx=>?_⟩
 rw [List.getElem?_drop] at hx
 have:=h.2 _ x hx
 rw [List.drop_drop,← Nat.add_mul]
 exact this
theorem Lay.take (h:Lay R w F l cs) (k:Nat):Lay R w F (l.take k) (cs.take (k * R.n)):=by
 refine ⟨?_,fun j x hx=>?_⟩
 ·rw [List.length_take,List.length_take,h.1]
  rcases Nat.le_total k l.length with hk | hk
  ·rw [Nat.min_eq_left hk,Nat.min_eq_left (Nat.mul_le_mul_right _ hk)]
  ·rw [Nat.min_eq_right hk,Nat.min_eq_right (Nat.mul_le_mul_right _ hk)]
 ·have hj:j < k:=by
   have:=(List.getElem?_eq_some_iff.1 hx).1
   simp at this; omega
  rw [List.getElem?_take_of_lt hj] at hx
  have h2:=h.2 j x hx
  have h3:(j + 1) * R.n ≤ k * R.n:=Nat.mul_le_mul_right _ hj
  rw [Nat.add_mul,Nat.one_mul] at h3
  rw [List.drop_take,List.take_take,Nat.min_eq_left (by omega)]
  exact h2
end
def Sli {α:Type} (R:Rep α) (w:World) (F:Nat → Prop) (l:List α) (v:Value):Prop:=
 ∃ A c,v = .slice A l.length c ∧ l.length ≤ c ∧ c ≤ 9223372036854775807 ∧ (0 < l.length → ∃ b off cs,A = some ⟨b,off,none⟩ ∧ F b ∧ Lay R w F l cs ∧ ∀ j u,cs[j]? = some u → w.cell? ⟨b,off + j,none⟩ = some u)
section
variable {α:Type} {R:Rep α} {w w':World} {F G:Nat → Prop} {l:List α} {v:Value}
theorem cell_of_heap {b o:Nat} (h:w'.heap[b]? = w.heap[b]?):w'.cell? ⟨b,o,none⟩ = w.cell? ⟨b,o,none⟩:=World.cell?_of_block (a:=⟨b,o,none⟩) h
theorem Sli.keep (h:Sli R w F l v) (hk:∀ b,F b → w'.heap[b]? = w.heap[b]?):Sli R w' F l v:=by
 obtain ⟨A,c,e,h1,h2,h3⟩:=h
 refine ⟨A,c,e,h1,h2,fun h0=>?_⟩
 obtain ⟨b,off,cs,ea,hb,hl,hc⟩:=h3 h0
 exact ⟨b,off,cs,ea,hb,hl.keep hk,fun j u hj=>(cell_of_heap (hk b hb)).trans (hc j u hj)⟩
theorem Sli.more (h:Sli R w F l v) (hk:∀ b,F b → G b):Sli R w G l v:=by
 obtain ⟨A,c,e,h1,h2,h3⟩:=h
 refine ⟨A,c,e,h1,h2,fun h0=>?_⟩
 obtain ⟨b,off,cs,ea,hb,hl,hc⟩:=h3 h0
 exact ⟨b,off,cs,ea,hk b hb,hl.more hk,hc⟩
theorem Sli.nil_:Sli R w F [] (.slice none 0 0):=⟨none,0,rfl,Nat.le_refl _,by omega,fun h=>absurd h (by simp)⟩
theorem Sli.below {B:Nat} (h:Sli R w F l v) (hb:Below B w w') (hF:∀ b,F b → b < B):Sli R w' F l v:=h.keep fun b hf=>hb.block b (hF b hf)
theorem Sli.alloc (h:Sli R w F l v) (o:Obj) (hF:∀ b,F b → b < w.heap.size):Sli R (w.alloc o) F l v:=h.keep fun b hf=>Below.heap_alloc w o b (hF b hf)
theorem Sli.drew (h:Sli R w F l v):Sli R w.drew F l v:=h.keep fun _ _=>rfl
theorem Sli.setCell (h:Sli R w F l v) {p:Addr} (u:Value) (hF:¬ F p.block):Sli R (w.setCell p u) F l v:=
 h.keep fun b hf=>Below.heap_setCell w p u b (fun e=>hF (by rw [← e]; exact hf))
theorem Sli.form (h:Sli R w F l v):∃ A c,v = .slice A l.length c ∧ l.length ≤ c ∧ c ≤ 9223372036854775807:=by
 obtain ⟨A,c,e,h1,h2,_⟩:=h; exact ⟨A,c,e,h1,h2⟩
theorem Sli.at_ {A:Option Addr} {n c:Nat} (h:Sli R w F l (.slice A n c)) (k:Nat) (hk:k < l.length) :
  ∃ b off a,A = some ⟨b,off,none⟩ ∧ F b ∧ R.rel w F l[k] a ∧ ∀ j u,a[j]? = some u → w.cell? ⟨b,off + k * R.n + j,none⟩ = some u:=by
 obtain ⟨A',c',e,h1,h2,h3⟩:=h
 injection e with e1 e2 e3
 subst e1
 obtain ⟨b,off,cs,ea,hb,hl,hc⟩:=h3 (by omega)
 refine ⟨b,off,_,ea,hb,hl.2 k _ (List.getElem?_eq_getElem hk),fun j u hj=>?_⟩
 rw [List.getElem?_take] at hj
 split at hj
 ·rw [List.getElem?_drop] at hj
  rw [Nat.add_assoc]; exact hc _ u hj
 ·cases hj
theorem Sli.take_ {A:Option Addr} {n c:Nat} (h:Sli R w F l (.slice A n c)) (k:Nat) (hk:k ≤ l.length):Sli R w F (l.take k) (.slice A k c):=by
 obtain ⟨A',c',e,h1,h2,h3⟩:=h
 injection e with e1 e2 e3
 subst e1; subst e3
 refine ⟨A,c,by rw [List.length_take,Nat.min_eq_left hk],by simp; omega,h2,fun h0=>?_⟩
 obtain ⟨b,off,cs,ea,hb,hl,hc⟩:=h3 (by simp at h0; omega)
 refine ⟨b,off,_,ea,hb,hl.take k,fun j u hj=>hc j u ?_⟩
 rw [List.getElem?_take] at hj
 split at hj
 ·exact hj
 ·cases hj
theorem Sli.drop_ {b off n c:Nat} (h:Sli R w F l (.slice (some ⟨b,off,none⟩) n c)) (k:Nat) (hk:k ≤ l.length) (n' c':Nat) (hn:n' = l.length - k) (hc':c' = c - k):Sli R w F (l.drop k) (.slice (some ⟨b,off + k * R.n,none⟩) n' c'):=by
 obtain ⟨A',c2,e,h1,h2,h3⟩:=h
 injection e with e1 e2 e3
 subst e1; subst e3; subst hn; subst hc'
 refine ⟨_,_,by rw [List.length_drop],by simp; omega,by omega,fun h0=>?_⟩
 obtain ⟨b2,off2,cs,ea,hb,hl,hc⟩:=h3 (by simp at h0; omega)
 injection ea with ea
 injection ea with e1 e2
 subst e1; subst e2
 refine ⟨b,_,_,rfl,hb,hl.drop k,fun j u hj=>?_⟩
 rw [List.getElem?_drop] at hj
 rw [Nat.add_assoc]; exact hc _ u hj
theorem Sli.own {base e n:Nat} {xs:List Value} (h:w.ownsRow base e R.n v n xs) (hl:Lay R w F l xs) (hn:n = l.length) (hc:∀ b c,v = .slice (some ⟨b,0,none⟩) n c → F b):Sli R w F l v:=by
 subst hn
 rcases h.2 with ⟨rfl,h0⟩ | ⟨g,cap,cur,rfl,hb,hg,h1,h2,h3,h4⟩
 ·obtain rfl:l = []:=List.length_eq_zero_iff.1 h0
  exact Sli.nil_
 ·have hf:=hc g cap rfl
  refine ⟨_,cap,rfl,h1,by unfold maxLen at h2; omega,fun _=>⟨g,0,xs,rfl,hf,hl,fun j u hj=>?_⟩⟩
  rw [Nat.zero_add]
  simp only [World.cell?,hg]
  rw [← h4] at hj
  rw [List.getElem?_take] at hj
  split at hj
  ·simpa using hj
  ·cases hj
theorem Sli.new {cs:List Value} (T:TypeId) (c:Nat) (hl:Lay R (w.alloc (.cells cs.toArray T)) F l cs) (hF:F w.heap.size) (h1:l.length ≤ c) (h2:c ≤ 9223372036854775807):Sli R (w.alloc (.cells cs.toArray T)) F l (.slice (some ⟨w.heap.size,0,none⟩) l.length c):=by
 refine ⟨_,c,rfl,h1,h2,fun _=>⟨_,0,cs,rfl,hF,hl,fun j u hj=>?_⟩⟩
 rw [Nat.zero_add]
 have hg:(w.alloc (.cells cs.toArray T)).heap[w.heap.size]? = some (.cells cs.toArray T (0,0)):=heap_alloc_new w _
 simp only [World.cell?,hg]
 simpa using hj
end
end
section
open Go.RowKit
structure Copied where
 name:ByteArray
 size:Int
 sum:ByteArray
theorem Copied.ext_iff' {a b:Copied}:a = b ↔ a.name = b.name ∧ a.size = b.size ∧ a.sum = b.sum:=by
 constructor
 ·rintro rfl; exact ⟨rfl,rfl,rfl⟩
 ·rintro ⟨h1,h2,h3⟩; cases a; cases b; simp at h1 h2 h3; subst h1; subst h2; subst h3; rfl
def Copied.eqB (a b:Copied):Bool:=decide (a.name = b.name) && decide (a.size = b.size) && decide (a.sum = b.sum)
theorem Copied.eqB_iff {a b:Copied}:a.eqB b = true ↔ a = b:=by rw [Copied.ext_iff']; simp [Copied.eqB,and_assoc]
end
section
open Go.RowKit
def From (w:World) (lo:Nat) (own:Option Nat) (b:Nat):Prop:=lo ≤ b ∧ b < w.heap.size ∧ some b ≠ own
def Own {α:Type} (R:Rep α) (w:World) (base lo:Nat) (e:TypeId) (l:List α) (v:Value):Prop:=
 ∃ xs,w.ownsRow base e R.n v l.length xs ∧ Lay R w (From w lo v.ownBlock) l xs
section
variable {α:Type} {R:Rep α} {w w' w1:World} {base lo:Nat} {e:TypeId} {l:List α} {v:Value}
theorem Own.nil_:Own R w base lo e [] (.slice none 0 0):=⟨[],World.ownsRow_nil w base e R.n,Lay.nil_⟩
theorem Own.form (h:Own R w base lo e l v):(v = .slice none 0 0 ∧ l = []) ∨ ∃ g cap,v = .slice (some ⟨g,0,none⟩) l.length cap ∧ base ≤ g ∧ g < w.heap.size ∧ l.length ≤ cap ∧ cap ≤ 9223372036854775807:=by
 obtain ⟨xs,ho,_⟩:=h
 rcases ho.2 with ⟨hv,h0⟩ | ⟨g,cap,cur,hv,hb,hg,hc,hm,_⟩
 ·exact .inl ⟨hv,List.length_eq_zero_iff.1 h0⟩
 ·exact .inr ⟨g,cap,hv,hb,heap_lt' hg,hc,by unfold maxLen at hm; omega⟩
where heap_lt' {w:World} {b:Nat} {o:Obj} (h:w.heap[b]? = some o):b < w.heap.size:=(Array.getElem?_eq_some_iff.1 h).1
theorem Own.block (h:Own R w base lo e l v) (g:Nat) (hg:v.ownBlock = some g):base ≤ g ∧ g < w.heap.size:=by
 obtain ⟨xs,ho,_⟩:=h
 exact ho.lt g hg
theorem Own.keep (h:Own R w base lo e l v) (hs:w.heap.size ≤ w'.heap.size) (hk:∀ b,(lo ≤ b ∨ v.ownBlock = some b) → b < w.heap.size → w'.heap[b]? = w.heap[b]?):Own R w' base lo e l v:=by
 obtain ⟨xs,ho,hl⟩:=h
 refine ⟨xs,⟨ho.1,?_⟩,(hl.keep fun b hb=>hk b (.inl hb.1) hb.2.1).more fun b hb=>⟨hb.1,Nat.lt_of_lt_of_le hb.2.1 hs,hb.2.2⟩⟩
 rcases ho.2 with hn | ⟨g,cap,cur,rfl,hb,hg,rest⟩
 ·exact .inl hn
 ·exact .inr ⟨g,cap,cur,rfl,hb,by rw [hk g (.inr rfl) (Array.getElem?_eq_some_iff.1 hg).1]; exact hg,rest⟩
theorem Own.alloc (h:Own R w base lo e l v) (o:Obj):Own R (w.alloc o) base lo e l v:=h.keep (by simp) fun b _ hb=>Below.heap_alloc w o b hb
theorem Own.drew (h:Own R w base lo e l v):Own R w.drew base lo e l v:=h.keep (Nat.le_refl _) fun _ _ _=>rfl
theorem Own.below (h:Own R w base lo e l v) (hb:Below w.heap.size w w'):Own R w' base lo e l v:=h.keep hb.size fun b _ hlt=>hb.block b hlt
theorem Own.setCell (h:Own R w base lo e l v) {p:Addr} (u:Value) (h1:p.block < lo) (h2:v.ownBlock ≠ some p.block):Own R (w.setCell p u) base lo e l v:=
 h.keep (by simp [World.setCell]) fun b hb _=>Below.heap_setCell w p u b (fun e=>by
  subst e
  rcases hb with hb | hb
  ·omega
  ·exact h2 hb)
theorem Own.grown {row:Option Nat} (h:Own R w base lo e l v) (hg:w.grownBy w' row) (h1:∀ k,row = some k → k < lo) (h2:v.ownBlock = none ∨ v.ownBlock ≠ row):Own R w' base lo e l v:=
 h.keep hg.size fun b hb hlt=>hg.block b hlt (fun er=>by
  rcases hb with hb | hb
  ·have:=h1 b er.symm; omega
  ·rcases h2 with h2 | h2
   ·rw [h2] at hb; cases hb
   ·exact h2 (by rw [hb,er]))
theorem Own.sli {F:Nat → Prop} (h:Own R w base lo e l v) (hF:∀ b,lo ≤ b → b < w.heap.size → F b) (hB:∀ g,v.ownBlock = some g → F g):Sli R w F l v:=by
 obtain ⟨xs,ho,hl⟩:=h
 exact Sli.own ho (hl.more fun b hb=>hF b hb.1 hb.2.1) rfl (fun b c hv=>hB b (by rw [hv]; rfl))
theorem Own.push {row:List Value} {xs cs:List Value} {v':Value} {g H:Nat} (hl:Lay R w (From w lo v.ownBlock) l xs) {y:α} (hy:R.rel w (From w lo v.ownBlock) y cs)
  (ho:w1.ownsRow base e R.n v' (l.length + 1) (xs ++ cs)) (hg:w.grownBy w1 v.ownBlock) (hv':v'.ownBlock = some g) (hat:v.ownBlock = some g ∨ (g = H ∧ w.heap.size ≤ H)):Own R w1 base lo e (l ++ [y]) v':=by
 have hF:∀ b,From w lo v.ownBlock b → From w1 lo v'.ownBlock b:=fun b hb=>⟨hb.1,Nat.lt_of_lt_of_le hb.2.1 hg.size,by
  rw [hv']
  rcases hat with h | ⟨h,h2⟩
  ·rw [← h]; exact hb.2.2
  ·intro e; injection e with e; have:=hb.2.1; omega⟩
 have hk:∀ b,From w lo v.ownBlock b → w1.heap[b]? = w.heap[b]?:=fun b hb=>hg.block b hb.2.1 hb.2.2
 exact ⟨_,by simpa using ho,((hl.snoc hy).keep hk).more hF⟩
end
theorem gbTrans {w a b:World} {row:Option Nat} (h:w.grownBy a row) (g:a.grownBy b row):w.grownBy b row:=
 ⟨g.os.trans h.os,g.tape.trans h.tape,g.output.trans h.output,Nat.le_trans h.size g.size,fun i hi hne=>(g.block i (Nat.lt_of_lt_of_le hi h.size) hne).trans (h.block i hi hne)⟩
theorem oneC {cs:List Value} (h:cs.all (fun u=>match u with | .agg _ | .tuple _=>false | _=>true) = true):∀ u ∈ cs,u.oneCell' = true:=by
 intro u hu
 have:=List.all_eq_true.1 h u hu
 cases u <;> first | rfl | cases this
end
section
open Go.RowKit
theorem step_push {P:Program} {α:Type} {R:Rep α} {ops:Array Oper} {o:Oper} {a:Act} {K:Act → World → Prop} {Q:Exit → Act → World → Prop} {E:Prop} (hgd:o.guard = none) (s x:Operand) (t:TypeId)
  (ho:o.op = .call { callee:=.builtin .append,args:=#[s,x],argTypes:=#[t,t] })
  (base lo:Nat) (e:TypeId) (i:TypeInfo) (z:Value) (bytes:Nat) (ht:P.underlying t = some (.slice e)) (hi:P.info? e = some i) (hz:i.zero = some z)
  (hsize:i.size = R.n) (hby:i.bytes = bytes) (hzs:z.cells.size = R.n) (hsz:0 < R.n)
  (W:World) (v:Value) (l:List α) (hs:a.eval s = v) (hown:Own R W base lo e l v) (y:α) (cs:List Value) (hy:R.rel W (From W lo v.ownBlock) y cs) (h1:∀ u ∈ cs,u.oneCell' = true)
  (B:Nat) (T:TypeId) (c:Nat) (hB:W.heap[B]? = some (.cells cs.toArray T (0,0))) (hx:a.eval x = .slice (some ⟨B,0,none⟩) 1 c) (h63:l.length + 1 ≤ maxLen) (hbytes:(l.length + 1) * bytes ≤ 140737488355328) (hbase:base ≤ W.heap.size)
  (h:∀ g cap w',Own R w' base lo e (l ++ [y]) (.slice (some ⟨g,0,none⟩) (l.length + 1) cap) → W.grownBy w' v.ownBlock → (v.ownBlock = some g ∨ g = W.heap.size) → g < w'.heap.size → K (a.put o.dst (.slice (some ⟨g,0,none⟩) (l.length + 1) cap)) w') :
  if Region.wanted o (yielded ops a.tmps) = true then Oper.wp P o a W K Q else E:=by
 obtain ⟨xs,hor,hl⟩:=hown
 have hn:=R.len hy
 refine step_append_lies W hgd s x t ho base e i z R.n bytes ht hi hz hsize hby hzs hsz v l.length xs hs hor ⟨B,0,none⟩ 1 c cs hx (by rw [hn,Nat.one_mul]) ?_ h1 (by omega) h63 hbytes hbase W.heap.size rfl ?_
 ·intro j u hj
  exact World.news_of_block hB j u (by simpa using hj)
 ·intro g cap w' h2 h3 h4 h5
  exact h g cap w' (Own.push (row:=xs) (g:=g) (H:=W.heap.size) hl hy h2 h3 rfl (h4.imp id fun h=>⟨h,Nat.le_refl _⟩)) h3 h4 h5
theorem wpList_pushB {P:Program} {α:Type} {R:Rep α} {ops:Array Oper} {rest:List Oper} {o:Oper} {a:Act} {Q:Exit → Act → World → Prop} (hgd:o.guard = none) (s x:Operand) (t:TypeId)
  (ho:o.op = .call { callee:=.builtin .append,args:=#[s,x],argTypes:=#[t,t] })
  (base lo:Nat) (e:TypeId) (i:TypeInfo) (z:Value) (bytes:Nat) (ht:P.underlying t = some (.slice e)) (hi:P.info? e = some i) (hz:i.zero = some z)
  (hsize:i.size = R.n) (hby:i.bytes = bytes) (hzs:z.cells.size = R.n) (hsz:0 < R.n)
  (W:World) (v:Value) (l:List α) (hs:a.eval s = v) (hown:Own R W base lo e l v) (y:α) (cs:List Value) (hy:R.rel W (From W lo v.ownBlock) y cs) (h1:∀ u ∈ cs,u.oneCell' = true)
  (B:Nat) (T:TypeId) (c:Nat) (hB:W.heap[B]? = some (.cells cs.toArray T (0,0))) (hx:a.eval x = .slice (some ⟨B,0,none⟩) 1 c) (h63:l.length + 1 ≤ maxLen) (hbytes:(l.length + 1) * bytes ≤ 140737488355328) (hbase:base ≤ W.heap.size)
  (h:∀ g cap w',Own R w' base lo e (l ++ [y]) (.slice (some ⟨g,0,none⟩) (l.length + 1) cap) → W.grownBy w' v.ownBlock → (v.ownBlock = some g ∨ g = W.heap.size) → g < w'.heap.size → wpList P ops Q rest (a.put o.dst (.slice (some ⟨g,0,none⟩) (l.length + 1) cap)) w') :
  wpList P ops Q (o :: rest) a W:=by
 obtain ⟨xs,hor,hl⟩:=hown
 have hn:=R.len hy
 refine wpList_append_lies W hgd s x t ho base e i z R.n bytes ht hi hz hsize hby hzs hsz v l.length xs hs hor ⟨B,0,none⟩ 1 c cs hx (by rw [hn,Nat.one_mul]) ?_ h1 (by omega) h63 hbytes hbase W.heap.size rfl ?_
 ·intro j u hj
  exact World.news_of_block hB j u (by simpa using hj)
 ·intro g cap w' h2 h3 h4 h5
  exact h g cap w' (Own.push (row:=xs) (g:=g) (H:=W.heap.size) hl hy h2 h3 rfl (h4.imp id fun h=>⟨h,Nat.le_refl _⟩)) h3 h4 h5
end
section
open Go.RowKit
def Dis (v v':Value):Prop:=∀ g,v.ownBlock = some g → v'.ownBlock = some g → False
theorem Dis.symm {v v':Value} (h:Dis v v'):Dis v' v:=fun g a b=>h g b a
theorem Dis.nil_ {v:Value}:Dis v (.slice none 0 0):=fun g _ b=>by cases b
section
variable {w w':World} {base:Nat} {l1 l2 l3:List ByteArray} {v1 v2 v3:Value}
end
end
section
open Go.RowKit
end
section
open Go.RowKit
end
section
open Go.RowKit
def bt (s:ByteArray) (i:Nat):Int:=if h:i < s.size then (s[i].toNat:Int) else 0
end
section
open Go.RowKit
end
section
open Go.RowKit
structure Ev where
 roll:ByteArray
 tin:Int
 tout:Int
theorem Ev.ext_iff' {a b:Ev}:a = b ↔ a.roll = b.roll ∧ a.tin = b.tin ∧ a.tout = b.tout:=by
 constructor
 ·rintro rfl; exact ⟨rfl,rfl,rfl⟩
 ·rintro ⟨h1,h2,h3⟩; cases a; cases b; simp at h1 h2 h3; subst h1; subst h2; subst h3; rfl
def Ev.eqB (a b:Ev):Bool:=decide (a.roll = b.roll) && decide (a.tin = b.tin) && decide (a.tout = b.tout)
theorem Ev.eqB_iff {a b:Ev}:a.eqB b = true ↔ a = b:=by rw [Ev.ext_iff']; simp [Ev.eqB,and_assoc]
def words (s:ByteArray) (c:UInt8):List ByteArray:=Lib.splitB ⟨#[c]⟩ 0 (Lib.countB s ⟨#[c]⟩) s
end
section
open Go.RowKit
section
variable {a w w' w1:World} {sb:Nat} {k:Int}
theorem gRefl (w:World) (sb:Nat):w.grownBy w (some sb):=⟨rfl,rfl,rfl,Nat.le_refl _,fun _ _ _=>rfl⟩
theorem gTrans (h:a.grownBy w (some sb)) (g:w.grownBy w1 (some sb)):a.grownBy w1 (some sb):=
 ⟨g.os.trans h.os,g.tape.trans h.tape,g.output.trans h.output,Nat.le_trans h.size g.size,fun i hi hne=>(g.block i (Nat.lt_of_lt_of_le hi h.size) hne).trans (h.block i hi hne)⟩
theorem gAlloc (h:a.grownBy w (some sb)) (o:Obj):a.grownBy (w.alloc o) (some sb):=
 gTrans h ⟨rfl,rfl,rfl,by simp,fun i hi _=>Below.heap_alloc w o i hi⟩
theorem gBelow (h:a.grownBy w (some sb)) (hb:Below w.heap.size w w1):a.grownBy w1 (some sb):=
 gTrans h ⟨hb.os,hb.tape,hb.output,hb.size,fun i hi _=>hb.block i hi⟩
theorem gSet (h:a.grownBy w (some sb)) {p:Addr} (hp:a.heap.size ≤ p.block) (v:Value):a.grownBy (w.setCell p v) (some sb):=
 ⟨h.os,h.tape,h.output,by simpa [World.setCell] using h.size,fun i hi hne=>(Below.heap_setCell w p v i (by omega)).trans (h.block i hi hne)⟩
theorem Str.lt (h:Str w sb k):sb < w.heap.size:=by
 obtain ⟨A,c,l,hb,_⟩:=h
 exact heap_lt hb
theorem Str.keep (h:Str w sb k) (hk:∀ b,b ≤ sb → w1.heap[b]? = w.heap[b]?):Str w1 sb k:=by
 obtain ⟨A,c,l,hb,h0,hr,hl,ho⟩:=h
 exact ⟨A,c,l,(hk sb (Nat.le_refl _)).trans hb,h0,hr.keep (fun p _ hp=>World.cell?_of_block (hk p.block (by omega))),hl,ho⟩
theorem Str.alloc (h:Str w sb k) (o:Obj):Str (w.alloc o) sb k:=h.keep fun b hb=>Below.heap_alloc w o b (by have:=h.lt; omega)
theorem Str.below (h:Str w sb k) (hb:Below w.heap.size w w1):Str w1 sb k:=h.keep fun b hb'=>hb.block b (by have:=h.lt; omega)
theorem Str.setCell (h:Str w sb k) {p:Addr} (hp:sb < p.block) (v:Value):Str (w.setCell p v) sb k:=h.keep fun b hb=>Below.heap_setCell w p v b (by omega)
theorem Str.drew (h:Str w sb k):Str w.drew sb k:=h
theorem gDrew (h:a.grownBy w (some sb)):a.grownBy w.drew (some sb):=⟨h.os,h.tape,h.output,h.size,h.block⟩
theorem Rs.new1 {α:Type} (w:World) (l:List α) (enc1:α → Value) (T:TypeId) (lo:Nat) (hlo:lo ≤ w.heap.size):Rs (w.alloc (.cells (l.map enc1).toArray T)) lo (w.heap.size + 1) 1 (fun x=>[enc1 x]) (some ⟨w.heap.size,0,none⟩) l:=by
 intro _
 refine ⟨_,_,rfl,hlo,by omega,fun j x hx i u hu=>?_⟩
 have hb:(w.alloc (.cells (l.map enc1).toArray T)).heap[w.heap.size]? = some (.cells (l.map enc1).toArray T (0,0)):=heap_alloc_new w _
 rw [(str_cells hb).1]
 cases i with
 | zero=>simp at hu; simp [hx,hu]
 | succ i=>simp at hu
theorem pickL (w:World) (l:List Int) (cs:Array Value) (T n c:Nat) (hcs:cs = (l.map (Value.int .i64)).toArray) (hn:n = l.length) (h0:0 < n) (h1:n ≤ 1000) (hs:Str w sb k) (hk:k ≤ 4611686018427387904) :
  Calls Tryz.prog 70 #[.pointer (some ⟨sb,0,none⟩),.slice (some ⟨w.heap.size,0,none⟩) n c] (w.alloc (.cells cs T)) (Took sb k 1 (isInt (· ∈ l)) (w.alloc (.cells cs T))):=by
 subst hcs; subst hn
 exact pick_c sb k _ l c w.heap.size (w.heap.size + 1) _ (hs.alloc _) hk h0 (by omega) (Rs.new1 w l (.int .i64) T _ (Nat.le_refl _)) hs.lt (by simp)
theorem oneL (w:World) (l:List ByteArray) (cs:Array Value) (T n c:Nat) (hcs:cs = (l.map Value.string).toArray) (hn:n = l.length) (h0:0 < n) (h1:n ≤ 1000) (hs:Str w sb k) (hk:k ≤ 4611686018427387904) :
  Calls Tryz.prog 17 #[.pointer (some ⟨sb,0,none⟩),.slice (some ⟨w.heap.size,0,none⟩) n c] (w.alloc (.cells cs T)) (Took sb k 1 (isStr (· ∈ l)) (w.alloc (.cells cs T))):=by
 subst hcs; subst hn
 exact one_c sb k _ l c w.heap.size (w.heap.size + 1) _ (hs.alloc _) hk h0 (by omega) (Rs.new1 w l .string T _ (Nat.le_refl _)) hs.lt (by simp)
end
end
section
open Go.RowKit
structure GS {α:Type} (R:Rep α) (e:TypeId) (w:World) (sb:Nat) (l:List α) (v:Value) (P:List (Nat × Array Value × TypeId)) (n:Int) (wx:World):Prop where
 str:Str wx sb n
 gr:w.grownBy wx (some sb)
 own:Own R wx w.heap.size w.heap.size e l v
 lt:sb < w.heap.size
 prv:∀ p ∈ P,wx.heap[p.1]? = some (.cells p.2.1 p.2.2 (0,0)) ∧ w.heap.size ≤ p.1 ∧ v.ownBlock ≠ some p.1
section
variable {α:Type} {R:Rep α} {e:TypeId} {w wx wy:World} {sb:Nat} {l:List α} {v:Value} {P:List (Nat × Array Value × TypeId)} {n n':Int}
theorem GS.start (h:Str w sb n):GS R e w sb [] (.slice none 0 0) [] n w:=⟨h,gRefl w sb,Own.nil_,h.lt,fun p hp=>by cases hp⟩
theorem GS.size (h:GS R e w sb l v P n wx):w.heap.size ≤ wx.heap.size:=h.gr.size
theorem GS.plt (h:GS R e w sb l v P n wx) {p:Nat × Array Value × TypeId} (hp:p ∈ P):p.1 < wx.heap.size:=heap_lt (h.prv p hp).1
theorem GS.turn (h:GS R e w sb l v P n wx) (hg:wx.grownBy wy (some sb)) (hs:Str wy sb n'):GS R e w sb l v P n' wy:=
 ⟨hs,gTrans h.gr hg,h.own.grown hg (fun k e=>by injection e with e; have:=h.lt; omega) (Or.inr fun e=>by have:=h.own.block _ e; have:=h.lt; omega),h.lt,fun p hp=>by
  obtain ⟨h1,h2,h3⟩:=h.prv p hp
  exact ⟨(hg.block _ (heap_lt h1) (by have:=h.lt; simp; omega)).trans h1,h2,h3⟩⟩
theorem GS.alloc (h:GS R e w sb l v P n wx) (o:Obj):GS R e w sb l v P n (wx.alloc o):=h.turn (gAlloc (gRefl wx sb) o) (h.str.alloc o)
theorem GS.below (h:GS R e w sb l v P n wx) (hb:Below wx.heap.size wx wy):GS R e w sb l v P n wy:=h.turn (gBelow (gRefl wx sb) hb) (h.str.below hb)
theorem GS.drew (h:GS R e w sb l v P n wx):GS R e w sb l v P n wx.drew:=⟨h.str,gDrew h.gr,h.own.drew,h.lt,h.prv⟩
theorem GS.new (h:GS R e w sb l v P n wx) (cs:Array Value) (T:TypeId):GS R e w sb l v ((wx.heap.size,cs,T) :: P) n (wx.alloc (.cells cs T)):=by
 have h2:=h.alloc (.cells cs T)
 refine ⟨h2.str,h2.gr,h2.own,h2.lt,fun p hp=>?_⟩
 rcases List.mem_cons.1 hp with rfl | hp
 ·exact ⟨heap_alloc_new wx _,h.size,fun e=>by have:=h.own.block _ e; omega⟩
 ·exact h2.prv p hp
theorem GS.set {b i:Nat} {cs:Array Value} {T:TypeId} (h:GS R e w sb l v ((b,cs,T) :: P) n wx) (hf:∀ {w w':World} {F:Nat → Prop} {x:α} {cs:List Value},R.rel w F x cs → R.rel w' F x cs) (u:Value) (hd:∀ p ∈ P,p.1 ≠ b):GS R e w sb l v ((b,cs.setIfInBounds i u,T) :: P) n (wx.setCell ⟨b,i,none⟩ u):=by
 obtain ⟨h1,h2,h3⟩:=h.prv (b,cs,T) (by simp)
 dsimp only at h1 h2 h3
 refine ⟨h.str.setCell (by have:=h.lt; show sb < b; omega) _,gSet h.gr h2 _,?_,h.lt,fun p hp=>?_⟩
 ·obtain ⟨xs,ho,hl⟩:=h.own
  refine ⟨xs,⟨ho.1,?_⟩,⟨hl.1,fun k x hx=>?_⟩⟩
  ·rcases ho.2 with hn | ⟨g,cap,cur,rfl,hb,hg,rest⟩
   ·exact .inl hn
   ·exact .inr ⟨g,cap,cur,rfl,hb,(Below.heap_setCell wx ⟨b,i,none⟩ u g (by intro e; exact h3 (by rw [e]; rfl))).trans hg,rest⟩
  ·exact hf (R.more (hl.2 k x hx) (fun q hq=>⟨hq.1,by simpa [World.setCell] using hq.2.1,hq.2.2⟩))
 ·rcases List.mem_cons.1 hp with rfl | hp
  ·exact ⟨by simp [World.setCell,Array.getElem?_modify,h1],h2,h3⟩
  ·obtain ⟨k1,k2,k3⟩:=h.prv p (by simp [hp])
   exact ⟨(Below.heap_setCell wx ⟨b,i,none⟩ u _ (by have:=hd p hp; show p.1 ≠ b; exact this)).trans k1,k2,k3⟩
theorem GS.push {l':List α} {v':Value} {o:Obj} (h:GS R e w sb l v P n wx) (hown:Own R wy w.heap.size w.heap.size e l' v') (hg:(wx.alloc o).grownBy wy v.ownBlock):GS R e w sb l' v' [] n wy:=by
 have ha:=h.alloc o
 have hz:=ha.size
 have hk:∀ b,b < w.heap.size → wy.heap[b]? = (wx.alloc o).heap[b]?:=fun b hb=>hg.block b (by omega) (fun e=>by have:=ha.own.block b e.symm; omega)
 exact ⟨ha.str.keep fun b hb=>hk b (by have:=h.lt; omega),⟨hg.os.trans ha.gr.os,hg.tape.trans ha.gr.tape,hg.output.trans ha.gr.output,Nat.le_trans ha.gr.size hg.size,fun i hi hne=>(hk i hi).trans (ha.gr.block i hi hne)⟩,hown,h.lt,fun p hp=>by cases hp⟩
theorem GS.less {Q:List (Nat × Array Value × TypeId)} (h:GS R e w sb l v P n wx) (hq:∀ p ∈ Q,p ∈ P):GS R e w sb l v Q n wx:=⟨h.str,h.gr,h.own,h.lt,fun p hp=>h.prv p (hq p hp)⟩
theorem GS.cell (h:GS R e w sb l v P n wx) {p:Nat × Array Value × TypeId} (hp:p ∈ P):(∀ i,wx.cell? ⟨p.1,i,none⟩ = p.2.1[i]?) ∧ (∀ i,wx.frozen? ⟨p.1,i,none⟩ = false):=str_cells (h.prv p hp).1
end
end
section
open Go.RowKit
theorem Lay.oneC {α:Type} {R:Rep α} {w:World} {F:Nat → Prop} {l:List α} {cs:List Value} (h:Lay R w F l cs) (h1:∀ x a,R.rel w F x a → ∀ u ∈ a,u.oneCell' = true):∀ u ∈ cs,u.oneCell' = true:=by
 intro u hu
 obtain ⟨j,hj,rfl⟩:=List.mem_iff_getElem.1 hu
 by_cases hn:R.n = 0
 ·rw [h.1,hn] at hj; omega
 ·have hq:j / R.n < l.length:=(Nat.div_lt_iff_lt_mul (by omega)).2 (by rw [← h.1]; exact hj)
  refine h1 _ _ (h.2 _ _ (List.getElem?_eq_getElem hq)) _ ?_
  rw [List.mem_iff_getElem?]
  refine ⟨j % R.n,?_⟩
  rw [List.getElem?_take,List.getElem?_drop,if_pos (Nat.mod_lt _ (by omega)),Nat.mul_comm,Nat.div_add_mod]
  exact List.getElem?_eq_getElem hj
section
variable {α:Type} {R:Rep α} {w w' w1:World} {base lo:Nat} {e:TypeId} {l l':List α} {v:Value}
theorem Own.app {row:List Value} {xs cs:List Value} {v':Value} {g H:Nat} (hl:Lay R w (From w lo v.ownBlock) l xs) (hy:Lay R w (From w lo v.ownBlock) l' cs)
  (ho:w1.ownsRow base e R.n v' (l.length + l'.length) (xs ++ cs)) (hg:w.grownBy w1 v.ownBlock) (hv':v'.ownBlock = some g) (hat:v.ownBlock = some g ∨ (g = H ∧ w.heap.size ≤ H)):Own R w1 base lo e (l ++ l') v':=by
 have hF:∀ b,From w lo v.ownBlock b → From w1 lo v'.ownBlock b:=fun b hb=>⟨hb.1,Nat.lt_of_lt_of_le hb.2.1 hg.size,by
  rw [hv']
  rcases hat with h | ⟨h,h2⟩
  ·rw [← h]; exact hb.2.2
  ·intro e; injection e with e; have:=hb.2.1; omega⟩
 have hk:∀ b,From w lo v.ownBlock b → w1.heap[b]? = w.heap[b]?:=fun b hb=>hg.block b hb.2.1 hb.2.2
 exact ⟨_,by simpa using ho,((hl.app hy).keep hk).more hF⟩
end
theorem step_app {P:Program} {α:Type} {R:Rep α} {ops:Array Oper} {o:Oper} {a:Act} {K:Act → World → Prop} {Q:Exit → Act → World → Prop} {E:Prop} (hgd:o.guard = none) (s x:Operand) (t:TypeId)
  (ho:o.op = .call { callee:=.builtin .append,args:=#[s,x],argTypes:=#[t,t] })
  (base lo:Nat) (e:TypeId) (i:TypeInfo) (z:Value) (bytes:Nat) (ht:P.underlying t = some (.slice e)) (hi:P.info? e = some i) (hz:i.zero = some z)
  (hsize:i.size = R.n) (hby:i.bytes = bytes) (hzs:z.cells.size = R.n) (hsz:0 < R.n)
  (W:World) (v:Value) (l:List α) (hs:a.eval s = v) (hown:Own R W base lo e l v) (l2:List α) (x2:Value) (hx:a.eval x = x2) (hl2:Sli R W (From W lo v.ownBlock) l2 x2)
  (h1:∀ (w:World) (F:Nat → Prop) y cs,R.rel w F y cs → ∀ u ∈ cs,u.oneCell' = true) (h0:0 < l2.length) (h63:l.length + l2.length ≤ maxLen) (hbytes:(l.length + l2.length) * bytes ≤ 140737488355328) (hbase:base ≤ W.heap.size)
  (h:∀ g cap w',Own R w' base lo e (l ++ l2) (.slice (some ⟨g,0,none⟩) (l.length + l2.length) cap) → W.grownBy w' v.ownBlock → (v.ownBlock = some g ∨ g = W.heap.size) → g < w'.heap.size → K (a.put o.dst (.slice (some ⟨g,0,none⟩) (l.length + l2.length) cap)) w') :
  if Region.wanted o (yielded ops a.tmps) = true then Oper.wp P o a W K Q else E:=by
 obtain ⟨xs,hor,hl⟩:=hown
 obtain ⟨A,c,rfl,hc1,hc2,hc3⟩:=hl2
 obtain ⟨b,off,cs,rfl,hb,hlay,hcell⟩:=hc3 h0
 refine step_append_lies W hgd s x t ho base e i z R.n bytes ht hi hz hsize hby hzs hsz v l.length xs hs hor ⟨b,off,none⟩ l2.length c cs hx hlay.1 ?_ (hlay.oneC (h1 _ _)) h0 h63 hbytes hbase W.heap.size rfl ?_
 ·intro j u hj
  have:=hcell j u hj
  by_cases hj0:j = 0
  ·subst hj0; simpa [Addr.add] using this
  ·simpa [Addr.add,hj0] using this
 ·intro g cap w' h2 h3 h4 h5
  exact h g cap w' (Own.app (row:=xs) (g:=g) (H:=W.heap.size) hl hlay h2 h3 rfl (h4.imp id fun h=>⟨h,Nat.le_refl _⟩)) h3 h4 h5
section
variable {α:Type} {R:Rep α} {e:TypeId} {w wx wy:World} {sb:Nat} {l:List α} {v:Value} {P:List (Nat × Array Value × TypeId)} {n n':Int}
theorem GS.more {l':List α} {v':Value} {g:Nat} (h:GS R e w sb l v P n wx) (hown:Own R wy w.heap.size w.heap.size e l' v') (hg:wx.grownBy wy v.ownBlock) (hv:v'.ownBlock = some g) (hat:v.ownBlock = some g ∨ g = wx.heap.size):GS R e w sb l' v' P n wy:=by
 have hz:=h.size
 have hk:∀ b,b < w.heap.size → wy.heap[b]? = wx.heap[b]?:=fun b hb=>hg.block b (by omega) (fun e=>by have:=h.own.block b e.symm; omega)
 refine ⟨h.str.keep fun b hb=>hk b (by have:=h.lt; omega),⟨hg.os.trans h.gr.os,hg.tape.trans h.gr.tape,hg.output.trans h.gr.output,Nat.le_trans h.gr.size hg.size,fun i hi hne=>(hk i hi).trans (h.gr.block i hi hne)⟩,hown,h.lt,fun p hp=>?_⟩
 obtain ⟨k1,k2,k3⟩:=h.prv p hp
 have hlt:=heap_lt k1
 refine ⟨(hg.block p.1 hlt (fun e=>k3 e.symm)).trans k1,k2,?_⟩
 rw [hv]
 intro e
 injection e with e
 rcases hat with hat | hat
 ·exact k3 (by rw [hat,e])
 ·omega
theorem GS.from_ {l2:List α} {x2:Value} (h:GS R e w sb l v P n wx) {b0:Nat} (hb:∀ g,v.ownBlock = some g → g < b0) (hlo:w.heap.size ≤ b0) (hs:Sli R wx (fun q=>b0 ≤ q ∧ q < wx.heap.size) l2 x2):Sli R wx (From wx w.heap.size v.ownBlock) l2 x2:=
 hs.more fun q hq=>⟨by omega,hq.2,fun e=>by have:=hb q e.symm; omega⟩
end
end
section
open Go.RowKit
def InF (w wx:World) (v:Value) (P:List (Nat × Array Value × TypeId)) (q:Nat):Prop:=w.heap.size ≤ q ∧ q < wx.heap.size ∧ (∀ p ∈ P,q ≠ p.1) ∧ v.ownBlock ≠ some q
structure GSI {α β:Type} (R:Rep α) (RI:Rep β) (inn:α → List β) (pv:α → Value) (e:TypeId) (w:World) (sb:Nat) (l:List α) (v:Value) (P:List (Nat × Array Value × TypeId)) (n:Int) (wx:World):Prop where
 gs:GS R e w sb l v P n wx
 inn:∀ x ∈ l,Sli RI wx (InF w wx v P) (inn x) (pv x)
section
variable {α β:Type} {R:Rep α} {RI:Rep β} {inn:α → List β} {pv:α → Value} {e:TypeId} {w wx wy:World} {sb:Nat} {l:List α} {v:Value} {P Q:List (Nat × Array Value × TypeId)} {n n':Int}
theorem GSI.start (h:Str w sb n):GSI R RI inn pv e w sb [] (.slice none 0 0) [] n w:=⟨GS.start h,fun x hx=>by cases hx⟩
theorem innTurn {k:List β} {u:Value} (h:Sli RI wx (InF w wx v P) k u) (hlt:sb < w.heap.size) (hg:wx.grownBy wy (some sb)):Sli RI wy (InF w wy v P) k u:=
 (h.keep (fun q hq=>hg.block q hq.2.1 (by have:=hq.1; simp; omega))).more (fun q hq=>⟨hq.1,Nat.lt_of_lt_of_le hq.2.1 hg.size,hq.2.2⟩)
theorem GSI.turn (h:GSI R RI inn pv e w sb l v P n wx) (hg:wx.grownBy wy (some sb)) (hs:Str wy sb n'):GSI R RI inn pv e w sb l v P n' wy:=⟨h.gs.turn hg hs,fun x hx=>innTurn (h.inn x hx) h.gs.lt hg⟩
theorem GSI.alloc (h:GSI R RI inn pv e w sb l v P n wx) (o:Obj):GSI R RI inn pv e w sb l v P n (wx.alloc o):=h.turn (gAlloc (gRefl wx sb) o) (h.gs.str.alloc o)
theorem GSI.below (h:GSI R RI inn pv e w sb l v P n wx) (hb:Below wx.heap.size wx wy):GSI R RI inn pv e w sb l v P n wy:=h.turn (gBelow (gRefl wx sb) hb) (h.gs.str.below hb)
theorem innNew {k:List β} {u:Value} (h:Sli RI wx (InF w wx v P) k u) (cs:Array Value) (T:TypeId):Sli RI (wx.alloc (.cells cs T)) (InF w (wx.alloc (.cells cs T)) v ((wx.heap.size,cs,T) :: P)) k u:=
 (h.alloc _ (fun q hq=>hq.2.1)).more (fun q hq=>⟨hq.1,by have:=hq.2.1; simp; omega,fun p hp=>by
  rcases List.mem_cons.1 hp with rfl | hp
  ·have:=hq.2.1; dsimp only; omega
  ·exact hq.2.2.1 p hp,hq.2.2.2⟩)
theorem GSI.new (h:GSI R RI inn pv e w sb l v P n wx) (cs:Array Value) (T:TypeId):GSI R RI inn pv e w sb l v ((wx.heap.size,cs,T) :: P) n (wx.alloc (.cells cs T)):=⟨h.gs.new cs T,fun x hx=>innNew (h.inn x hx) cs T⟩
theorem innSet {k:List β} {u z:Value} {b i:Nat} {cs:Array Value} {T:TypeId} (h:Sli RI wx (InF w wx v ((b,cs,T) :: P)) k u):Sli RI (wx.setCell ⟨b,i,none⟩ z) (InF w (wx.setCell ⟨b,i,none⟩ z) v ((b,cs.setIfInBounds i z,T) :: P)) k u:=
 (h.setCell z (p:=⟨b,i,none⟩) (fun hF=>hF.2.2.1 (b,cs,T) (by simp) rfl)).more (fun q hq=>⟨hq.1,by simpa [World.setCell] using hq.2.1,fun p hp=>by
  rcases List.mem_cons.1 hp with rfl | hp
  ·exact hq.2.2.1 (b,cs,T) (by simp)
  ·exact hq.2.2.1 p (by simp [hp]),hq.2.2.2⟩)
theorem GSI.set {b i:Nat} {cs:Array Value} {T:TypeId} (h:GSI R RI inn pv e w sb l v ((b,cs,T) :: P) n wx) (hf:∀ {w w':World} {F:Nat → Prop} {x:α} {cs:List Value},R.rel w F x cs → R.rel w' F x cs) (u:Value) (hd:∀ p ∈ P,p.1 ≠ b):GSI R RI inn pv e w sb l v ((b,cs.setIfInBounds i u,T) :: P) n (wx.setCell ⟨b,i,none⟩ u):=⟨h.gs.set hf u hd,fun x hx=>innSet (h.inn x hx)⟩
theorem InF.less (hq:∀ p ∈ Q,p ∈ P) {q:Nat} (h:InF w wx v P q):InF w wx v Q q:=⟨h.1,h.2.1,fun p hp=>h.2.2.1 p (hq p hp),h.2.2.2⟩
theorem GSI.less (h:GSI R RI inn pv e w sb l v P n wx) (hq:∀ p ∈ Q,p ∈ P):GSI R RI inn pv e w sb l v Q n wx:=⟨h.gs.less hq,fun x hx=>(h.inn x hx).more fun _ hF=>hF.less hq⟩
theorem GSI.more {x':α} {v':Value} {g:Nat} (h:GSI R RI inn pv e w sb l v P n wx) (hown:Own R wy w.heap.size w.heap.size e (l ++ [x']) v') (hg:wx.grownBy wy v.ownBlock) (hv:v'.ownBlock = some g) (hat:v.ownBlock = some g ∨ g = wx.heap.size)
  (hi:Sli RI wx (InF w wx v P) (inn x') (pv x')):GSI R RI inn pv e w sb (l ++ [x']) v' P n wy:=by
 have key:∀ k u,Sli RI wx (InF w wx v P) k u → Sli RI wy (InF w wy v' P) k u:=fun k u hs=>
  (hs.keep fun q hq=>hg.block q hq.2.1 fun e=>hq.2.2.2 e.symm).more fun q hq=>⟨hq.1,Nat.lt_of_lt_of_le hq.2.1 hg.size,hq.2.2.1,by
   rw [hv]
   intro e
   injection e with e
   rcases hat with hat | hat
   ·exact hq.2.2.2 (by rw [hat,e])
   ·have:=hq.2.1; omega⟩
 exact ⟨h.gs.more hown hg hv hat,fun x hx=>by
  rcases List.mem_append.1 hx with hx | hx
  ·exact key _ _ (h.inn x hx)
  ·rw [List.mem_singleton] at hx; subst hx; exact key _ _ hi⟩
end
end
section
open Go.RowKit
theorem take_drop_set {xs:List Value} {i a n:Nat} {u:Value} (h:i < a ∨ a + n ≤ i):((xs.set i u).drop a).take n = (xs.drop a).take n:=by
 apply List.ext_getElem?
 intro j
 simp only [List.getElem?_take,List.getElem?_drop,List.getElem?_set]
 by_cases hj:j < n
 ·rw [if_pos hj,if_pos hj,if_neg (by omega)]
 ·rw [if_neg hj,if_neg hj]
theorem take_drop_set_in {xs:List Value} {a j n:Nat} {u:Value} (hj:j < n) (hl:a + j < xs.length):((xs.set (a + j) u).drop a).take n = ((xs.drop a).take n).set j u:=by
 apply List.ext_getElem?
 intro i
 simp only [List.getElem?_take,List.getElem?_drop,List.getElem?_set,List.length_take,List.length_drop]
 by_cases hi:i < n
 ·rw [if_pos hi,if_pos hi]
  by_cases e:j = i
  ·subst e
   rw [if_pos rfl,if_pos rfl,if_pos hl,if_pos (by omega)]
  ·rw [if_neg (by omega),if_neg e]
 ·rw [if_neg hi,if_neg hi,if_neg (by omega)]
section
variable {α:Type} {n:Nat} {enc:α → List Value} {hn:∀ x,(enc x).length = n} {w:World} {base lo:Nat} {e:TypeId} {l:List α} {v:Value}
theorem Lay.modify {F G:Nat → Prop} {w':World} {xs:List Value} (h:Lay (Rep.flat n enc hn) w F l xs) (f:α → α) (k j:Nat) (u:Value) (hf:∀ x,enc (f x) = (enc x).set j u) (hj:j < n) (hk:k < l.length):Lay (Rep.flat n enc hn) w' G (l.modify k f) (xs.set (k * n + j) u):=by
 have h1:xs.length = l.length * n:=h.1
 refine ⟨by rw [List.length_set,List.length_modify]; exact h.1,fun i x hx=>?_⟩
 show ((xs.set (k * n + j) u).drop (i * n)).take n = enc x
 rw [List.getElem?_modify] at hx
 have hkn:(k + 1) * n ≤ l.length * n:=Nat.mul_le_mul_right _ hk
 rw [Nat.add_mul,Nat.one_mul] at hkn
 by_cases e:k = i
 ·subst e
  rw [List.getElem?_eq_getElem hk] at hx
  simp at hx
  have hz:(xs.drop (k * n)).take n = enc l[k]:=h.2 k _ (List.getElem?_eq_getElem hk)
  rw [take_drop_set_in hj (by omega),hz,← hx,hf]
 ·have hx':l[i]? = some x:=by
   rw [← hx]
   cases l[i]? <;> simp [e]
  have hz:(xs.drop (i * n)).take n = enc x:=h.2 i x hx'
  rw [take_drop_set ?_,hz]
  rcases Nat.lt_or_gt_of_ne e with h2 | h2
  ·left
   have:(k + 1) * n ≤ i * n:=Nat.mul_le_mul_right _ h2
   rw [Nat.add_mul,Nat.one_mul] at this
   omega
  ·right
   have:(i + 1) * n ≤ k * n:=Nat.mul_le_mul_right _ h2
   rw [Nat.add_mul,Nat.one_mul] at this
   omega
theorem Own.modify {g m cap:Nat} (h:Own (Rep.flat n enc hn) w base lo e l (.slice (some ⟨g,0,none⟩) m cap)) (f:α → α) (k j:Nat) (u:Value) (hf:∀ x,enc (f x) = (enc x).set j u) (hj:j < n) (hk:k < l.length) :
  Own (Rep.flat n enc hn) (w.setCell ⟨g,k * n + j,none⟩ u) base lo e (l.modify k f) (.slice (some ⟨g,0,none⟩) m cap):=by
 obtain ⟨xs,ho,hl⟩:=h
 refine ⟨xs.set (k * n + j) u,⟨by rw [List.length_set,List.length_modify]; exact ho.1,?_⟩,hl.modify f k j u hf hj hk⟩
 rcases ho.2 with ⟨hv,_⟩ | ⟨g',cap',cur,hv,hb,hg,h1,h2,h3,h4⟩
 ·cases hv
 ·injection hv with hv1 hv2 hv3
  injection hv1 with hv1
  injection hv1 with hv1
  subst hv1; subst hv3
  refine .inr ⟨g,cap,cur.setIfInBounds (k * n + j) u,by rw [List.length_modify]; rw [hv2],hb,by simp [World.setCell,Array.getElem?_modify,hg],by rw [List.length_modify]; exact h1,h2,by simpa using h3,?_⟩
  rw [List.length_modify,← h4]
  have hkn:(k + 1) * n ≤ l.length * n:=Nat.mul_le_mul_right _ hk
  rw [Nat.add_mul,Nat.one_mul] at hkn
  show (cur.setIfInBounds (k * n + j) u).toList.take (l.length * n) = (cur.toList.take (l.length * n)).set (k * n + j) u
  rw [Array.toList_setIfInBounds,List.take_set]
theorem Own.less {base' lo':Nat} (h:Own (Rep.flat n enc hn) w base lo e l v) (hb:base' ≤ base):Own (Rep.flat n enc hn) w base' lo' e l v:=by
 obtain ⟨xs,ho,hl⟩:=h
 refine ⟨xs,⟨ho.1,?_⟩,hl⟩
 rcases ho.2 with hv | ⟨g,cap,cur,hv,hg,rest⟩
 ·exact .inl hv
 ·exact .inr ⟨g,cap,cur,hv,by omega,rest⟩
theorem Own.cellAt {g m cap:Nat} (h:Own (Rep.flat n enc hn) w base lo e l (.slice (some ⟨g,0,none⟩) m cap)) (k:Nat) (hk:k < l.length) (j:Nat) (hj:j < n):w.cell? ⟨g,k * n + j,none⟩ = (enc l[k])[j]? ∧ w.frozen? ⟨g,k * n + j,none⟩ = false:=by
 obtain ⟨xs,ho,hl⟩:=h
 rcases ho.2 with ⟨hv,_⟩ | ⟨g',cap',cur,hv,hb,hg,h1,h2,h3,h4⟩
 ·cases hv
 ·injection hv with hv1 hv2 hv3
  injection hv1 with hv1
  injection hv1 with hv1
  subst hv1; subst hv3
  obtain ⟨h5,h6⟩:=str_cells hg
  refine ⟨?_,h6 _⟩
  rw [h5]
  have hz:(xs.drop (k * n)).take n = enc l[k]:=hl.2 k _ (List.getElem?_eq_getElem hk)
  have hkn:(k + 1) * n ≤ l.length * n:=Nat.mul_le_mul_right _ hk
  rw [Nat.add_mul,Nat.one_mul] at hkn
  rw [← hz,List.getElem?_take,if_pos hj,List.getElem?_drop,← h4,List.getElem?_take,if_pos (by show k * n + j < l.length * n; omega)]
  simp
theorem Own.some_ (h:Own (Rep.flat n enc hn) w base lo e l v) (h0:0 < l.length):∃ g cap,v = .slice (some ⟨g,0,none⟩) l.length cap ∧ base ≤ g ∧ g < w.heap.size:=by
 rcases h.form with ⟨_,rfl⟩ | ⟨g,cap,hv,hb,hg,_⟩
 ·simp at h0
 ·exact ⟨g,cap,hv,hb,hg⟩
end
section
variable {α β:Type} {RI:Rep β} {inn:α → List β} {pv:α → Value} {n:Nat} {enc:α → List Value} {hn:∀ x,(enc x).length = n} {e:TypeId} {w wx wy:World} {sb:Nat} {l:List α} {P:List (Nat × Array Value × TypeId)} {k0:Int}
theorem GS.modify {g m cap:Nat} (h:GS (Rep.flat n enc hn) e w sb l (.slice (some ⟨g,0,none⟩) m cap) P k0 wx) (f:α → α) (k j:Nat) (u:Value) (hf:∀ x,enc (f x) = (enc x).set j u) (hj:j < n) (hk:k < l.length) :
  GS (Rep.flat n enc hn) e w sb (l.modify k f) (.slice (some ⟨g,0,none⟩) m cap) P k0 (wx.setCell ⟨g,k * n + j,none⟩ u):=by
 have hg:=h.own.block g rfl
 refine ⟨h.str.setCell (by have:=h.lt; show sb < g; omega) _,gSet h.gr hg.1 _,h.own.modify f k j u hf hj hk,h.lt,fun p hp=>?_⟩
 obtain ⟨h1,h2,h3⟩:=h.prv p hp
 exact ⟨(Below.heap_setCell wx ⟨g,k * n + j,none⟩ u _ (by intro e; exact h3 (by rw [e]; rfl))).trans h1,h2,h3⟩
theorem GSI.modify {g m cap:Nat} (h:GSI (Rep.flat n enc hn) RI inn pv e w sb l (.slice (some ⟨g,0,none⟩) m cap) P k0 wx) (f:α → α) (k j:Nat) (u:Value) (hf:∀ x,enc (f x) = (enc x).set j u) (hj:j < n) (hk:k < l.length) (hi:∀ x,inn (f x) = inn x) (hp:∀ x,pv (f x) = pv x) :
  GSI (Rep.flat n enc hn) RI inn pv e w sb (l.modify k f) (.slice (some ⟨g,0,none⟩) m cap) P k0 (wx.setCell ⟨g,k * n + j,none⟩ u):=by
 refine ⟨h.gs.modify f k j u hf hj hk,fun x hx=>?_⟩
 have key:∀ y ∈ l,Sli RI (wx.setCell ⟨g,k * n + j,none⟩ u) (InF w (wx.setCell ⟨g,k * n + j,none⟩ u) (.slice (some ⟨g,0,none⟩) m cap) P) (inn y) (pv y):=fun y hy=>
  ((h.inn y hy).setCell u (p:=⟨g,k * n + j,none⟩) (fun hF=>hF.2.2.2 rfl)).more fun q hq=>⟨hq.1,by simpa [World.setCell] using hq.2.1,hq.2.2⟩
 obtain ⟨i,hi2⟩:=List.mem_iff_getElem?.1 hx
 rw [List.getElem?_modify] at hi2
 cases hli:l[i]? with
 | none=>rw [hli] at hi2; simp at hi2
 | some y=>
  rw [hli] at hi2
  have hm:y ∈ l:=List.mem_iff_getElem?.2 ⟨i,hli⟩
  simp at hi2
  by_cases e:k = i
  ·rw [if_pos e] at hi2; rw [← hi2,hi,hp]; exact key y hm
  ·rw [if_neg e] at hi2; rw [← hi2]; exact key y hm
end
end
section
open Go.RowKit
structure BO {α:Type} (R:Rep α) (e:TypeId) (w:World) (l:List α) (v:Value) (P:List (Nat × Array Value × TypeId)) (wx:World):Prop where
 bel:Below w.heap.size w wx
 own:Own R wx w.heap.size w.heap.size e l v
 prv:∀ p ∈ P,wx.heap[p.1]? = some (.cells p.2.1 p.2.2 (0,0)) ∧ w.heap.size ≤ p.1 ∧ v.ownBlock ≠ some p.1
section
variable {α:Type} {R:Rep α} {e:TypeId} {w wx wy:World} {l:List α} {v:Value} {P Q:List (Nat × Array Value × TypeId)}
theorem BO.start (w:World):BO R e w [] (.slice none 0 0) [] w:=⟨Below.refl _ _,Own.nil_,fun p hp=>by cases hp⟩
theorem BO.size (h:BO R e w l v P wx):w.heap.size ≤ wx.heap.size:=h.bel.size
theorem BO.plt (h:BO R e w l v P wx) {p:Nat × Array Value × TypeId} (hp:p ∈ P):p.1 < wx.heap.size:=heap_lt (h.prv p hp).1
theorem BO.below (h:BO R e w l v P wx) (hb:Below wx.heap.size wx wy):BO R e w l v P wy:=
 ⟨h.bel.trans (hb.mono h.size),h.own.below hb,fun p hp=>⟨(hb.block _ (h.plt hp)).trans (h.prv p hp).1,(h.prv p hp).2⟩⟩
theorem BO.alloc (h:BO R e w l v P wx) (o:Obj):BO R e w l v P (wx.alloc o):=h.below ((Below.refl _ wx).alloc (Nat.le_refl _) o)
theorem BO.drew (h:BO R e w l v P wx):BO R e w l v P wx.drew:=⟨⟨h.bel.os,h.bel.tape,h.bel.output,h.bel.size,h.bel.block⟩,h.own.drew,h.prv⟩
theorem BO.new (h:BO R e w l v P wx) (cs:Array Value) (T:TypeId):BO R e w l v ((wx.heap.size,cs,T) :: P) (wx.alloc (.cells cs T)):=by
 have h2:=h.alloc (.cells cs T)
 refine ⟨h2.bel,h2.own,fun p hp=>?_⟩
 rcases List.mem_cons.1 hp with rfl | hp
 ·exact ⟨heap_alloc_new wx _,h.size,fun e=>by have:=h.own.block _ e; omega⟩
 ·exact h2.prv p hp
theorem belSet (h:Below w.heap.size w wx) {p:Addr} (hp:w.heap.size ≤ p.block) (u:Value):Below w.heap.size w (wx.setCell p u):=
 ⟨h.os,h.tape,h.output,by simpa [World.setCell] using h.size,fun i hi=>(Below.heap_setCell wx p u i (by omega)).trans (h.block i hi)⟩
theorem BO.set {b i:Nat} {cs:Array Value} {T:TypeId} (h:BO R e w l v ((b,cs,T) :: P) wx) (hf:∀ {w w':World} {F:Nat → Prop} {x:α} {cs:List Value},R.rel w F x cs → R.rel w' F x cs) (u:Value) (hd:∀ p ∈ P,p.1 ≠ b):BO R e w l v ((b,cs.setIfInBounds i u,T) :: P) (wx.setCell ⟨b,i,none⟩ u):=by
 obtain ⟨h1,h2,h3⟩:=h.prv (b,cs,T) (by simp)
 dsimp only at h1 h2 h3
 refine ⟨belSet h.bel h2 u,?_,fun p hp=>?_⟩
 ·obtain ⟨xs,ho,hl⟩:=h.own
  refine ⟨xs,⟨ho.1,?_⟩,⟨hl.1,fun k x hx=>?_⟩⟩
  ·rcases ho.2 with hn | ⟨g,cap,cur,rfl,hb,hg,rest⟩
   ·exact .inl hn
   ·exact .inr ⟨g,cap,cur,rfl,hb,(Below.heap_setCell wx ⟨b,i,none⟩ u g (by intro e; exact h3 (by rw [e]; rfl))).trans hg,rest⟩
  ·exact hf (R.more (hl.2 k x hx) (fun q hq=>⟨hq.1,by simpa [World.setCell] using hq.2.1,hq.2.2⟩))
 ·rcases List.mem_cons.1 hp with rfl | hp
  ·exact ⟨by simp [World.setCell,Array.getElem?_modify,h1],h2,h3⟩
  ·obtain ⟨k1,k2,k3⟩:=h.prv p (by simp [hp])
   exact ⟨(Below.heap_setCell wx ⟨b,i,none⟩ u _ (by have:=hd p hp; show p.1 ≠ b; exact this)).trans k1,k2,k3⟩
theorem BO.less (h:BO R e w l v P wx) (hq:∀ p ∈ Q,p ∈ P):BO R e w l v Q wx:=⟨h.bel,h.own,fun p hp=>h.prv p (hq p hp)⟩
theorem BO.cell (h:BO R e w l v P wx) {p:Nat × Array Value × TypeId} (hp:p ∈ P):(∀ i,wx.cell? ⟨p.1,i,none⟩ = p.2.1[i]?) ∧ (∀ i,wx.frozen? ⟨p.1,i,none⟩ = false):=str_cells (h.prv p hp).1
theorem BO.more {l':List α} {v':Value} {g:Nat} (h:BO R e w l v P wx) (hown:Own R wy w.heap.size w.heap.size e l' v') (hg:wx.grownBy wy v.ownBlock) (hv:v'.ownBlock = some g) (hat:v.ownBlock = some g ∨ g = wx.heap.size):BO R e w l' v' P wy:=by
 have hz:=h.size
 refine ⟨h.bel.grown hg hz (fun k hk=>(h.own.block k hk).1),hown,fun p hp=>?_⟩
 obtain ⟨k1,k2,k3⟩:=h.prv p hp
 have hlt:=heap_lt k1
 refine ⟨(hg.block p.1 hlt (fun e=>k3 e.symm)).trans k1,k2,?_⟩
 rw [hv]
 intro e
 injection e with e
 rcases hat with hat | hat
 ·exact k3 (by rw [hat,e])
 ·omega
theorem BO.take {l':List α} {v':Value} (h:BO R e w l v P wx) (hb:Below wx.heap.size wx wy) (hown:Own R wy wx.heap.size wx.heap.size e l' v') (hl:Own R wy w.heap.size w.heap.size e l' v'):BO R e w l' v' P wy:=
 ⟨h.bel.trans (hb.mono h.size),hl,fun p hp=>⟨(hb.block _ (h.plt hp)).trans (h.prv p hp).1,(h.prv p hp).2.1,fun e=>by have:=hown.block _ e; have:=h.plt hp; omega⟩⟩
end
section
variable {α:Type} {n:Nat} {enc:α → List Value} {hn:∀ x,(enc x).length = n} {e:TypeId} {w wx wy:World} {l:List α} {P:List (Nat × Array Value × TypeId)}
theorem BO.modify {g m cap:Nat} (h:BO (Rep.flat n enc hn) e w l (.slice (some ⟨g,0,none⟩) m cap) P wx) (f:α → α) (k j:Nat) (u:Value) (hf:∀ x,enc (f x) = (enc x).set j u) (hj:j < n) (hk:k < l.length) :
  BO (Rep.flat n enc hn) e w (l.modify k f) (.slice (some ⟨g,0,none⟩) m cap) P (wx.setCell ⟨g,k * n + j,none⟩ u):=by
 have hg:=h.own.block g rfl
 refine ⟨belSet h.bel hg.1 u,h.own.modify f k j u hf hj hk,fun p hp=>?_⟩
 obtain ⟨h1,h2,h3⟩:=h.prv p hp
 exact ⟨(Below.heap_setCell wx ⟨g,k * n + j,none⟩ u _ (by intro e; exact h3 (by rw [e]; rfl))).trans h1,h2,h3⟩
end
end
section
open Go.RowKit
abbrev Pb:=Nat × (Option Obj → Prop)
section
variable {α β:Type} {n1 n2:Nat} {enc:α → List Value} {h1:∀ x,(enc x).length = n1} {enc2:β → List Value} {h2:∀ x,(enc2 x).length = n2} {inn:α → List β} {pv:α → Value} {e e2:TypeId}
 {w wx wy:World} {sb:Nat} {l:List α} {v:Value} {lc:List β} {vc:Value} {P Q:List Pb} {n n':Int}
end
end
section
open Go.RowKit
section
variable {α:Type} {n:Nat} {enc:α → List Value} {hn:∀ x,(enc x).length = n} {w w':World} {base lo:Nat} {e:TypeId} {l:List α} {v:Value}
theorem Own.keepF (h:Own (Rep.flat n enc hn) w base lo e l v) (hk:∀ g,v.ownBlock = some g → w'.heap[g]? = w.heap[g]?) (hs:w.heap.size ≤ w'.heap.size):Own (Rep.flat n enc hn) w' base lo e l v:=by
 obtain ⟨xs,ho,hl⟩:=h
 refine ⟨xs,⟨ho.1,?_⟩,hl⟩
 rcases ho.2 with hn | ⟨g,cap,cur,rfl,hb,hg,rest⟩
 ·exact .inl hn
 ·exact .inr ⟨g,cap,cur,rfl,hb,by rw [hk g rfl]; exact hg,rest⟩
theorem Own.sliF {F:Nat → Prop} (h:Own (Rep.flat n enc hn) w base lo e l v) (hB:∀ g,v.ownBlock = some g → F g):Sli (Rep.flat n enc hn) w F l v:=by
 obtain ⟨xs,ho,hl⟩:=h
 exact Sli.own (R:=Rep.flat n enc hn) ho hl rfl (fun b c hv=>hB b (by rw [hv]; rfl))
end
section
variable {α β:Type} {n m:Nat} {enc:α → List Value} {hn:∀ x,(enc x).length = n} {encI:β → List Value} {hm:∀ x,(encI x).length = m} {inn:α → List β} {pv:α → Value} {e eI:TypeId} {w wx wy:World} {l:List α} {v:Value} {P Q:List (Nat × Array Value × TypeId)}
end
end
section
open Go.RowKit
structure BM {α:Type} (R:Rep α) (e:TypeId) (w:World) (l:List α) (v:Value) (P:List Pb) (wx:World):Prop where
 bel:Below w.heap.size w wx
 own:Own R wx w.heap.size w.heap.size e l v
 prv:∀ p ∈ P,p.2 wx.heap[p.1]? ∧ w.heap.size ≤ p.1 ∧ p.1 < wx.heap.size ∧ v.ownBlock ≠ some p.1
section
variable {α:Type} {n:Nat} {enc:α → List Value} {hn:∀ x,(enc x).length = n} {e:TypeId} {w wx wy:World} {l l':List α} {v v':Value} {P Q:List Pb}
theorem BM.start (w:World):BM (Rep.flat n enc hn) e w [] (.slice none 0 0) [] w:=⟨Below.refl _ _,Own.nil_,fun p hp=>by cases hp⟩
theorem BM.size (h:BM (Rep.flat n enc hn) e w l v P wx):w.heap.size ≤ wx.heap.size:=h.bel.size
theorem BM.below (h:BM (Rep.flat n enc hn) e w l v P wx) (hb:Below wx.heap.size wx wy):BM (Rep.flat n enc hn) e w l v P wy:=
 ⟨h.bel.trans (hb.mono h.size),h.own.below hb,fun p hp=>by
  obtain ⟨a,b,c,d⟩:=h.prv p hp
  exact ⟨by rw [hb.block p.1 c]; exact a,b,Nat.lt_of_lt_of_le c hb.size,d⟩⟩
theorem BM.alloc (h:BM (Rep.flat n enc hn) e w l v P wx) (o:Obj):BM (Rep.flat n enc hn) e w l v P (wx.alloc o):=h.below ((Below.refl _ wx).alloc (Nat.le_refl _) o)
theorem BM.drew (h:BM (Rep.flat n enc hn) e w l v P wx):BM (Rep.flat n enc hn) e w l v P wx.drew:=⟨⟨h.bel.os,h.bel.tape,h.bel.output,h.bel.size,h.bel.block⟩,h.own.drew,h.prv⟩
theorem BM.more {g:Nat} (h:BM (Rep.flat n enc hn) e w l v P wx) (hown:Own (Rep.flat n enc hn) wy w.heap.size w.heap.size e l' v') (hg:wx.grownBy wy v.ownBlock) (hv:v'.ownBlock = some g) (hat:v.ownBlock = some g ∨ g = wx.heap.size):BM (Rep.flat n enc hn) e w l' v' P wy:=by
 refine ⟨h.bel.grown hg h.size (fun k hk=>(h.own.block k hk).1),hown,fun p hp=>?_⟩
 obtain ⟨k1,k2,k3,k4⟩:=h.prv p hp
 refine ⟨by rw [hg.block p.1 k3 (fun e=>k4 e.symm)]; exact k1,k2,Nat.lt_of_lt_of_le k3 hg.size,?_⟩
 rw [hv]
 intro e
 injection e with e
 rcases hat with hat | hat
 ·exact k4 (by rw [hat,e])
 ·omega
theorem BM.modify {g m cap:Nat} (h:BM (Rep.flat n enc hn) e w l (.slice (some ⟨g,0,none⟩) m cap) P wx) (f:α → α) (k j:Nat) (u:Value) (hf:∀ x,enc (f x) = (enc x).set j u) (hj:j < n) (hk:k < l.length) :
  BM (Rep.flat n enc hn) e w (l.modify k f) (.slice (some ⟨g,0,none⟩) m cap) P (wx.setCell ⟨g,k * n + j,none⟩ u):=by
 have hg:=h.own.block g rfl
 refine ⟨belSet h.bel hg.1 u,h.own.modify f k j u hf hj hk,fun p hp=>?_⟩
 obtain ⟨h1,h2,h3,h4⟩:=h.prv p hp
 exact ⟨by rw [Below.heap_setCell wx ⟨g,k * n + j,none⟩ u p.1 (fun e=>h4 (by rw [e]; rfl))]; exact h1,h2,by simpa [World.setCell] using h3,h4⟩
theorem BM.plt (h:BM (Rep.flat n enc hn) e w l v P wx) {b:Nat} {f:Option Obj → Prop} (hp:(b,f) ∈ P):w.heap.size ≤ b ∧ b < wx.heap.size:=⟨(h.prv _ hp).2.1,(h.prv _ hp).2.2.1⟩
end
end
section
open Go.RowKit
theorem came_own {w:World} {base:Nat} {e:TypeId} {size:Nat} {g n cap:Nat} {xs:List Value} (h:w.ownsRow base e size (.slice (some ⟨g,0,none⟩) n cap) n xs):Came w size (some ⟨g,0,none⟩) g 0 n cap xs:=by
 rcases h.2 with ⟨hv,_⟩ | ⟨g',cap',cur,hv,hb,hg,h1,h2,h3,h4⟩
 ·cases hv
 ·injection hv with hv1 hv2 hv3
  injection hv1 with hv1
  injection hv1 with hv1
  subst hv1; subst hv3
  obtain ⟨h5,h6⟩:=str_cells hg
  refine ⟨h1,fun _=>rfl,fun _=>heap_lt hg,h.1,fun j u hj=>?_,fun j hj=>⟨?_,h6 _⟩⟩
  ·rw [h5,Nat.zero_add,← Array.getElem?_toList]
   have hlt:j < n * size:=by rw [← h.1]; exact (List.getElem?_eq_some_iff.1 hj).1
   rw [← h4,List.getElem?_take,if_pos hlt] at hj
   exact hj
  ·rw [h5,Nat.zero_add]
   have:n * size + j < cur.size:=by
    rw [h3]
    rw [Nat.sub_mul] at hj
    omega
   simp [this]
theorem run_push_keeps {P:Program} {W:World} {base:Nat} {e:TypeId} {size:Nat} {g0 n cap0:Nat} {xs:List Value} (hown:W.ownsRow base e size (.slice (some ⟨g0,0,none⟩) n cap0) n xs)
  (t ty:TypeId) (i:TypeInfo) (z:Value) (bytes:Nat) (ht:P.underlying t = some (.slice e)) (hi:P.info? e = some i) (hz:i.zero = some z) (hsize:i.size = size) (hby:i.bytes = bytes) (hzs:z.cells.size = size) (hsz:0 < size)
  (ad:Addr) (c:Nat) (news:List Value) (hl:news.length = 1 * size) (hnews:∀ j u,news[j]? = some u → W.cell? (ad.add j) = some u) (h1:∀ u ∈ news,u.oneCell' = true)
  (h63:n + 1 ≤ maxLen) (hbytes:(n + 1) * bytes ≤ 140737488355328) (hbase:base ≤ W.heap.size) :
  ∃ g cap w',(Builtin.append_ #[t,t] ty #[.slice (some ⟨g0,0,none⟩) n cap0,.slice (some ad) 1 c]).run P W = .ok (.slice (some ⟨g,0,none⟩) (n + 1) cap) w' ∧
   w'.ownsRow base e size (.slice (some ⟨g,0,none⟩) (n + 1) cap) (n + 1) (xs ++ news) ∧ W.grownBy w' (some g0) ∧ (some g0 = some g ∨ g = W.heap.size) ∧ g < w'.heap.size ∧ (∀ j,j < n * size → w'.cell? ⟨g0,j,none⟩ = W.cell? ⟨g0,j,none⟩):=by
 obtain ⟨g,cap,w',hr,h2,h3,h4,h5⟩:=run_append_lies (P:=P) W t ty base e i z size bytes ht hi hz hsize hby hzs hsz _ n xs hown ad 1 c news hl hnews h1 (by omega) h63 hbytes hbase W.heap.size rfl
 have hc:=came_own hown
 obtain ⟨v2,w2,hr2,ho⟩:=run_append_onto (P:=P) hc t ty i z bytes ht hi hz hsize hby hzs hsz (Onto.start hc) ad c news hl hnews h1 h63 hbytes
 have hg0:g0 < W.heap.size:=by
  rcases hown.2 with ⟨hv,_⟩ | ⟨g',cap',cur,hv,hb,hg,_⟩
  ·cases hv
  ·injection hv with hv1 hv2 hv3
   injection hv1 with hv1
   injection hv1 with hv1
   subst hv1
   exact heap_lt hg
 refine ⟨g,cap,w',hr,h2,h3,h4,h5,fun j hj=>?_⟩
 have e:=hr.symm.trans hr2
 injection e with e1 e2
 subst e2
 exact ho.old hg0 (fun j' _ _ ⟨_,e⟩=>by omega)
theorem Own.lit1 (w:World) (e:TypeId) (x:ByteArray):Own strR (w.alloc (.cells #[.string x] e)) w.heap.size w.heap.size e [x] (.slice (some ⟨w.heap.size,0,none⟩) 1 1):=
 ⟨[.string x],⟨rfl,.inr ⟨w.heap.size,1,#[.string x],rfl,Nat.le_refl _,heap_alloc_new w _,Nat.le_refl _,by decide,rfl,rfl⟩⟩,rfl,fun k y hk=>by
  cases k with
  | zero=>simp at hk; subst hk; rfl
  | succ k=>simp at hk⟩
end
section
open Go.RowKit
theorem oper_push {P:Program} {α:Type} {R:Rep α} {o:Oper} {a:Act} {K:Act → World → Prop} {Q:Exit → Act → World → Prop} (hgd:o.guard = none) (s x:Operand) (t:TypeId)
  (ho:o.op = .call { callee:=.builtin .append,args:=#[s,x],argTypes:=#[t,t] })
  (base lo:Nat) (e:TypeId) (i:TypeInfo) (z:Value) (bytes:Nat) (ht:P.underlying t = some (.slice e)) (hi:P.info? e = some i) (hz:i.zero = some z)
  (hsize:i.size = R.n) (hby:i.bytes = bytes) (hzs:z.cells.size = R.n) (hsz:0 < R.n)
  (W:World) (v:Value) (l:List α) (hs:a.eval s = v) (hown:Own R W base lo e l v) (y:α) (cs:List Value) (hy:R.rel W (From W lo v.ownBlock) y cs) (h1:∀ u ∈ cs,u.oneCell' = true)
  (B:Nat) (T:TypeId) (c:Nat) (hB:W.heap[B]? = some (.cells cs.toArray T (0,0))) (hx:a.eval x = .slice (some ⟨B,0,none⟩) 1 c) (h63:l.length + 1 ≤ maxLen) (hbytes:(l.length + 1) * bytes ≤ 140737488355328) (hbase:base ≤ W.heap.size)
  (h:∀ g cap w',Own R w' base lo e (l ++ [y]) (.slice (some ⟨g,0,none⟩) (l.length + 1) cap) → W.grownBy w' v.ownBlock → (v.ownBlock = some g ∨ g = W.heap.size) → g < w'.heap.size → K (a.put o.dst (.slice (some ⟨g,0,none⟩) (l.length + 1) cap)) w') :
  Oper.wp P o a W K Q:=by
 have h2:=step_push (ops:=#[]) (K:=K) (Q:=Q) (E:=False) hgd s x t ho base lo e i z bytes ht hi hz hsize hby hzs hsz W v l hs hown y cs hy h1 B T c hB hx h63 hbytes hbase h
 rw [if_pos (by simp [Region.wanted,hgd])] at h2
 exact h2
theorem oper_pushK {P:Program} {α:Type} {R:Rep α} {o:Oper} {a:Act} {K:Act → World → Prop} {Q:Exit → Act → World → Prop} (hgd:o.guard = none) (s x:Operand) (t:TypeId)
  (ho:o.op = .call { callee:=.builtin .append,args:=#[s,x],argTypes:=#[t,t] })
  (base lo:Nat) (e:TypeId) (i:TypeInfo) (z:Value) (bytes:Nat) (ht:P.underlying t = some (.slice e)) (hi:P.info? e = some i) (hz:i.zero = some z)
  (hsize:i.size = R.n) (hby:i.bytes = bytes) (hzs:z.cells.size = R.n) (hsz:0 < R.n)
  (W:World) (g0 cap0 n:Nat) (l:List α) (hln:l.length = n) (hs:a.eval s = .slice (some ⟨g0,0,none⟩) n cap0) (hown:Own R W base lo e l (.slice (some ⟨g0,0,none⟩) n cap0)) (y:α) (cs:List Value) (hy:R.rel W (From W lo (some g0)) y cs) (h1:∀ u ∈ cs,u.oneCell' = true)
  (B:Nat) (T:TypeId) (c:Nat) (hB:W.heap[B]? = some (.cells cs.toArray T (0,0))) (hx:a.eval x = .slice (some ⟨B,0,none⟩) 1 c) (h63:n + 1 ≤ maxLen) (hbytes:(n + 1) * bytes ≤ 140737488355328) (hbase:base ≤ W.heap.size)
  (h:∀ g cap w',Own R w' base lo e (l ++ [y]) (.slice (some ⟨g,0,none⟩) (n + 1) cap) → W.grownBy w' (some g0) → (some g0 = some g ∨ g = W.heap.size) → g < w'.heap.size → (∀ j,j < n * R.n → w'.cell? ⟨g0,j,none⟩ = W.cell? ⟨g0,j,none⟩) → K (a.put o.dst (.slice (some ⟨g,0,none⟩) (n + 1) cap)) w') :
  Oper.wp P o a W K Q:=by
 subst hln
 obtain ⟨xs,hor,hl⟩:=hown
 have hn:=R.len hy
 obtain ⟨g,cap,w',hr,h2,h3,h4,h5,h6⟩:=run_push_keeps (P:=P) hor t o.type i z bytes ht hi hz hsize hby hzs hsz ⟨B,0,none⟩ c cs (by rw [hn,Nat.one_mul]) (fun j u hj=>World.news_of_block hB j u (by simpa using hj)) h1 h63 hbytes hbase
 unfold Oper.wp execOp
 simp only [ho,resolve,invoke,builtin,Sem.run_bind,Sem.run_pure,Result.andThen_ok,List.map_toArray,List.map_cons,List.map_nil,hs,hx,hr]
 exact h g cap w' (Own.push (v:=.slice (some ⟨g0,0,none⟩) l.length cap0) (row:=xs) (g:=g) (H:=W.heap.size) hl hy h2 h3 rfl (h4.imp id fun h=>⟨h,Nat.le_refl _⟩)) h3 h4 h5 h6
end
section
open Go.RowKit
section
variable {α:Type} {n:Nat} {enc:α → List Value} {hn:∀ x,(enc x).length = n}
theorem Lay.any {w w':World} {F G:Nat → Prop} {l:List α} {cs:List Value} (h:Lay (Rep.flat n enc hn) w F l cs):Lay (Rep.flat n enc hn) w' G l cs:=⟨h.1,fun k x hx=>h.2 k x hx⟩
theorem Lay.cells1 {w:World} {F:Nat → Prop} {l:List α} {cs:List Value} (h:Lay (Rep.flat n enc hn) w F l cs) (h0:0 < n) (h1:∀ x,∀ u ∈ enc x,u.oneCell' = true):∀ u ∈ cs,u.oneCell' = true:=by
 intro u hu
 obtain ⟨j,hj⟩:=List.mem_iff_getElem?.1 hu
 have hlt:=(List.getElem?_eq_some_iff.1 hj).1
 have hlen:cs.length = l.length * n:=h.1
 have hk:j / n < l.length:=by
  rw [Nat.div_lt_iff_lt_mul h0]
  omega
 have he:(cs.drop (j / n * n)).take n = enc l[j / n]:=h.2 _ _ (List.getElem?_eq_getElem hk)
 refine h1 l[j / n] u ?_
 rw [← he]
 refine List.mem_iff_getElem?.2 ⟨j % n,?_⟩
 rw [List.getElem?_take_of_lt (Nat.mod_lt _ h0),List.getElem?_drop,Nat.mul_comm,Nat.div_add_mod]
 exact hj
theorem addrAdd (b off j:Nat):(⟨b,off,none⟩:Addr).add j = ⟨b,off + j,none⟩:=by unfold Addr.add; split <;> simp_all
theorem oper_appL {P:Program} {o:Oper} {a:Act} {K:Act → World → Prop} {Q:Exit → Act → World → Prop} (s x:Operand) (t:TypeId)
  (ho:o.op = .call { callee:=.builtin .append,args:=#[s,x],argTypes:=#[t,t] })
  (base lo:Nat) (e:TypeId) (i:TypeInfo) (z:Value) (bytes:Nat) (ht:P.underlying t = some (.slice e)) (hi:P.info? e = some i) (hz:i.zero = some z)
  (hsize:i.size = n) (hby:i.bytes = bytes) (hzs:z.cells.size = n) (hsz:0 < n) (h1:∀ x,∀ u ∈ enc x,u.oneCell' = true)
  (W:World) (v:Value) (l:List α) (hs:a.eval s = v) (hown:Own (Rep.flat n enc hn) W base lo e l v) {F:Nat → Prop} (ys:List α) (ad:Option Addr) (m c:Nat) (hx:a.eval x = .slice ad m c) (hy:Sli (Rep.flat n enc hn) W F ys (.slice ad m c)) (hm:ys.length = m) (h0:0 < m)
  (h63:l.length + m ≤ maxLen) (hbytes:(l.length + m) * bytes ≤ 140737488355328) (hbase:base ≤ W.heap.size)
  (h:∀ g cap w',Own (Rep.flat n enc hn) w' base lo e (l ++ ys) (.slice (some ⟨g,0,none⟩) (l.length + m) cap) → W.grownBy w' v.ownBlock → (v.ownBlock = some g ∨ g = W.heap.size) → g < w'.heap.size → K (a.put o.dst (.slice (some ⟨g,0,none⟩) (l.length + m) cap)) w') :
  Oper.wp P o a W K Q:=by
 obtain ⟨xs,hor,hl⟩:=hown
 subst hm
 obtain ⟨A,c',ea,_,_,h3⟩:=hy
 injection ea with e1 e2 e3
 subst e1; subst e3
 obtain ⟨b,off,cs,rfl,_,hly,hc⟩:=h3 h0
 have hcl:cs.length = ys.length * n:=hly.1
 refine wp_append_lies W s x t ho base e i z n bytes ht hi hz hsize hby hzs hsz v l.length xs hs hor ⟨b,off,none⟩ ys.length c cs hx hcl (fun j u hj=>by rw [addrAdd]; exact hc j u hj) (hly.cells1 hsz h1) h0 h63 hbytes hbase W.heap.size rfl ?_
 intro g cap w' h2 h4 h5 h6
 exact h g cap w' ⟨_,by rw [List.length_append]; exact h2,Lay.app hl.any hly.any⟩ h4 h5 h6
theorem wpList_appL {P:Program} {ops:Array Oper} {rest:List Oper} {o:Oper} {a:Act} {Q:Exit → Act → World → Prop} (hgd:o.guard = none) (s x:Operand) (t:TypeId)
  (ho:o.op = .call { callee:=.builtin .append,args:=#[s,x],argTypes:=#[t,t] })
  (base lo:Nat) (e:TypeId) (i:TypeInfo) (z:Value) (bytes:Nat) (ht:P.underlying t = some (.slice e)) (hi:P.info? e = some i) (hz:i.zero = some z)
  (hsize:i.size = n) (hby:i.bytes = bytes) (hzs:z.cells.size = n) (hsz:0 < n) (h1:∀ x,∀ u ∈ enc x,u.oneCell' = true)
  (W:World) (v:Value) (l:List α) (hs:a.eval s = v) (hown:Own (Rep.flat n enc hn) W base lo e l v) {F:Nat → Prop} (ys:List α) (ad:Option Addr) (m c:Nat) (hx:a.eval x = .slice ad m c) (hy:Sli (Rep.flat n enc hn) W F ys (.slice ad m c)) (hm:ys.length = m) (h0:0 < m)
  (h63:l.length + m ≤ maxLen) (hbytes:(l.length + m) * bytes ≤ 140737488355328) (hbase:base ≤ W.heap.size)
  (h:∀ g cap w',Own (Rep.flat n enc hn) w' base lo e (l ++ ys) (.slice (some ⟨g,0,none⟩) (l.length + m) cap) → W.grownBy w' v.ownBlock → (v.ownBlock = some g ∨ g = W.heap.size) → g < w'.heap.size → wpList P ops Q rest (a.put o.dst (.slice (some ⟨g,0,none⟩) (l.length + m) cap)) w') :
  wpList P ops Q (o :: rest) a W:=
 wpList_plain hgd fun K hK=>oper_appL s x t ho base lo e i z bytes ht hi hz hsize hby hzs hsz h1 W v l hs hown ys ad m c hx hy hm h0 h63 hbytes hbase fun g cap w' h2 h3 h4 h5=>hK _ _ (h g cap w' h2 h3 h4 h5)
end
end
section
open Go.RowKit
abbrev valR:Rep Value:=Rep.flat 1 (fun v:Value=>[v]) (fun _=>rfl)
section
variable {α β:Type} {n:Nat} {enc:α → List Value} {hn:∀ x,(enc x).length = n} {enc':β → List Value} {hn':∀ x,(enc' x).length = n} {w:World} {base lo:Nat} {e:TypeId} {l:List α} {l':List β} {v:Value}
theorem Own.recode (h:Own (Rep.flat n enc hn) w base lo e l v) (hl:l'.length = l.length) (he:∀ (i:Nat) x x',l[i]? = some x → l'[i]? = some x' → enc' x' = enc x):Own (Rep.flat n enc' hn') w base lo e l' v:=by
 obtain ⟨xs,ho,h1,h2⟩:=h
 refine ⟨xs,by rw [hl]; exact ho,by rw [hl]; exact h1,fun k x' hx'=>?_⟩
 have hk:k < l.length:=by rw [← hl]; exact (List.getElem?_eq_some_iff.1 hx').1
 have h3:=h2 k _ (List.getElem?_eq_getElem hk)
 show _ = enc' x'
 rw [he k _ _ (List.getElem?_eq_getElem hk) hx']
 exact h3
theorem Sli.recode {F:Nat → Prop} (h:Sli (Rep.flat n enc hn) w F l v) (hl:l'.length = l.length) (he:∀ (i:Nat) x x',l[i]? = some x → l'[i]? = some x' → enc' x' = enc x):Sli (Rep.flat n enc' hn') w F l' v:=by
 obtain ⟨A,c,h1,h2,h3,h4⟩:=h
 refine ⟨A,c,by rw [hl]; exact h1,by rw [hl]; exact h2,h3,fun h0=>?_⟩
 obtain ⟨b,off,cs,q1,q2,q3,q4⟩:=h4 (by rw [← hl]; exact h0)
 refine ⟨b,off,cs,q1,q2,⟨by rw [hl]; exact q3.1,fun k x' hx'=>?_⟩,q4⟩
 have hk:k < l.length:=by rw [← hl]; exact (List.getElem?_eq_some_iff.1 hx').1
 have h3:=q3.2 k _ (List.getElem?_eq_getElem hk)
 show _ = enc' x'
 rw [he k _ _ (List.getElem?_eq_getElem hk) hx']
 exact h3
end
theorem Own.vals {w:World} {base lo:Nat} {e:TypeId} {l:List ByteArray} {v:Value} (h:Own strR w base lo e l v):Own valR w base lo e (l.map .string) v:=
 Own.recode h (by simp) fun i x x' hx hx'=>by rw [List.getElem?_map,hx] at hx'; cases hx'; rfl
theorem Own.strs {w:World} {base lo:Nat} {e:TypeId} {l:List ByteArray} {v:Value} (h:Own valR w base lo e (l.map .string) v):Own strR w base lo e l v:=
 Own.recode h (by simp) fun i x x' hx hx'=>by rw [List.getElem?_map,hx'] at hx; cases hx; rfl
theorem Own.prvS {w:World} {base lo:Nat} {e:TypeId} {l:List ByteArray} {v:Value} (h:Own strR w base lo e l v) (h0:0 < l.length) :
  ∃ g cap cs,v = .slice (some ⟨g,0,none⟩) l.length cap ∧ w.heap[g]? = some (.cells cs e (0,0)) ∧ base ≤ g ∧ ∀ (j:Nat) x,l[j]? = some x → cs[j]? = some (.string x):=by
 obtain ⟨xs,ho,hl⟩:=h
 rcases ho.2 with ⟨rfl,h1⟩ | ⟨g,cap,cur,rfl,hb,hg,h1,h2,h3,h4⟩
 ·omega
 ·refine ⟨g,cap,cur,rfl,hg,hb,fun j x hx=>?_⟩
  have hj:=(List.getElem?_eq_some_iff.1 hx).1
  have h5:(xs.drop (j * 1)).take 1 = [.string x]:=hl.2 j x hx
  have h6:xs[j]? = some (.string x):=by
   have h7:=congrArg (fun l=>l[0]?) h5
   simpa using h7
  rw [← h4,List.getElem?_take] at h6
  split at h6
  ·simpa using h6
  ·cases h6
section
variable {α:Type} {n:Nat} {enc:α → List Value} {hn:∀ x,(enc x).length = n}
theorem Own.at1 {w:World} {e:TypeId} {x:α} {g base lo:Nat} (hg:w.heap[g]? = some (.cells (enc x).toArray e (0,0))) (hb:base ≤ g):Own (Rep.flat n enc hn) w base lo e [x] (.slice (some ⟨g,0,none⟩) 1 1):=
 ⟨enc x,⟨by rw [hn]; show n = 1 * n; omega,.inr ⟨g,1,(enc x).toArray,rfl,hb,hg,Nat.le_refl _,by decide,by simp [hn]; rfl,by
  show (enc x).take (1 * n) = enc x
  rw [Nat.one_mul,List.take_of_length_le (by rw [hn]; exact Nat.le_refl _)]⟩⟩,by rw [hn]; show n = 1 * n; omega,fun k y hk=>by
  cases k with
  | zero=>
   simp at hk; subst hk
   show ((enc x).drop (0 * n)).take n = enc x
   rw [Nat.zero_mul,List.drop_zero,List.take_of_length_le (by rw [hn]; exact Nat.le_refl _)]
  | succ k=>simp at hk⟩
end
structure NG {α ι:Type} (R:Rep α) (inn:ι → α → List Value) (pv:ι → α → Value) (e:TypeId) (eI:ι → TypeId) (w:World) (l:List α) (v:Value) (P:List (Nat × Array Value × TypeId)) (wx:World):Prop where
 bo:BO R e w l v P wx
 row:∀ (b:ι) (i:Nat) x,l[i]? = some x → Own valR wx w.heap.size w.heap.size (eI b) (inn b x) (pv b x) ∧ (∀ g,(pv b x).ownBlock = some g → v.ownBlock ≠ some g ∧ ∀ p ∈ P,p.1 ≠ g)
 dis:∀ (b c:ι) (i j:Nat) x y,l[i]? = some x → l[j]? = some y → (i ≠ j ∨ b ≠ c) → Dis (pv b x) (pv c y)
def NGNew {α ι:Type} (inn:ι → α → List Value) (pv:ι → α → Value) (eI:ι → TypeId) (w:World) (l:List α) (v:Value) (P:List (Nat × Array Value × TypeId)) (x':α) (wx:World):Prop:=
 ∀ b,Own valR wx w.heap.size w.heap.size (eI b) (inn b x') (pv b x') ∧ ∀ g,(pv b x').ownBlock = some g → v.ownBlock ≠ some g ∧ (∀ p ∈ P,p.1 ≠ g) ∧ (∀ y ∈ l,∀ c,(pv c y).ownBlock ≠ some g) ∧ ∀ c,c ≠ b → (pv c x').ownBlock ≠ some g
section
variable {α ι:Type} {n:Nat} {enc:α → List Value} {hn:∀ x,(enc x).length = n} {inn:ι → α → List Value} {pv:ι → α → Value} {e:TypeId} {eI:ι → TypeId} {w wx wy:World} {l:List α} {v:Value} {P Q:List (Nat × Array Value × TypeId)} {x':α}
abbrev NGF (n:Nat) (enc:α → List Value) (hn:∀ x,(enc x).length = n) (inn:ι → α → List Value) (pv:ι → α → Value) (e:TypeId) (eI:ι → TypeId) (w:World) (l:List α) (v:Value) (P:List (Nat × Array Value × TypeId)) (wx:World):Prop:=NG (Rep.flat n enc hn) inn pv e eI w l v P wx
theorem NG.below (h:NGF n enc hn inn pv e eI w l v P wx) (hb:Below wx.heap.size wx wy):NGF n enc hn inn pv e eI w l v P wy:=
 ⟨h.bo.below hb,fun b i x hx=>⟨(h.row b i x hx).1.below hb,(h.row b i x hx).2⟩,h.dis⟩
theorem NG.alloc (h:NGF n enc hn inn pv e eI w l v P wx) (o:Obj):NGF n enc hn inn pv e eI w l v P (wx.alloc o):=h.below ((Below.refl _ wx).alloc (Nat.le_refl _) o)
theorem NG.drew (h:NGF n enc hn inn pv e eI w l v P wx):NGF n enc hn inn pv e eI w l v P wx.drew:=⟨h.bo.drew,fun b i x hx=>⟨(h.row b i x hx).1.drew,(h.row b i x hx).2⟩,h.dis⟩
theorem NG.new (h:NGF n enc hn inn pv e eI w l v P wx) (cs:Array Value) (T:TypeId):NGF n enc hn inn pv e eI w l v ((wx.heap.size,cs,T) :: P) (wx.alloc (.cells cs T)):=by
 have h2:=h.alloc (.cells cs T)
 refine ⟨h.bo.new cs T,fun b i x hx=>⟨(h2.row b i x hx).1,fun g hg=>⟨((h.row b i x hx).2 g hg).1,fun p hp=>?_⟩⟩,h.dis⟩
 rcases List.mem_cons.1 hp with rfl | hp
 ·have:=(h.row b i x hx).1.block g hg; dsimp only; omega
 ·exact ((h.row b i x hx).2 g hg).2 p hp
theorem NG.keep {g:Nat} {cs:Array Value} {T:TypeId} (h:NGF n enc hn inn pv e eI w l v P wx) (hb:Below wx.heap.size wx wy) (hg:wy.heap[g]? = some (.cells cs T (0,0))) (hw:wx.heap.size ≤ g):NGF n enc hn inn pv e eI w l v ((g,cs,T) :: P) wy:=by
 have h2:=h.below hb
 have hz:=h.bo.size
 refine ⟨⟨h2.bo.bel,h2.bo.own,fun p hp=>?_⟩,fun b i x hx=>⟨(h2.row b i x hx).1,fun k hk=>⟨((h2.row b i x hx).2 k hk).1,fun p hp=>?_⟩⟩,h.dis⟩
 ·rcases List.mem_cons.1 hp with rfl | hp
  ·exact ⟨hg,Nat.le_trans hz hw,fun e=>by have:=(h.bo.own.block _ e).2; dsimp only at this; omega⟩
  ·exact h2.bo.prv p hp
 ·rcases List.mem_cons.1 hp with rfl | hp
  ·have:=(h.row b i x hx).1.block k hk; dsimp only; omega
  ·exact ((h.row b i x hx).2 k hk).2 p hp
theorem NG.less (h:NGF n enc hn inn pv e eI w l v P wx) (hq:∀ p ∈ Q,p ∈ P):NGF n enc hn inn pv e eI w l v Q wx:=⟨h.bo.less hq,fun b i x hx=>⟨(h.row b i x hx).1,fun g hg=>⟨((h.row b i x hx).2 g hg).1,fun p hp=>((h.row b i x hx).2 g hg).2 p (hq p hp)⟩⟩,h.dis⟩
theorem NG.cell (h:NGF n enc hn inn pv e eI w l v P wx) {p:Nat × Array Value × TypeId} (hp:p ∈ P):(∀ i,wx.cell? ⟨p.1,i,none⟩ = p.2.1[i]?) ∧ (∀ i,wx.frozen? ⟨p.1,i,none⟩ = false):=h.bo.cell hp
theorem NGNew.of (h:NGF n enc hn inn pv e eI w l v P wx) (hr:∀ b,Own valR wy wx.heap.size wx.heap.size (eI b) (inn b x') (pv b x')) (hd:∀ b c,c ≠ b → Dis (pv b x') (pv c x')):NGNew inn pv eI w l v P x' wy:=by
 intro b
 refine ⟨(hr b).less (enc:=fun v:Value=>[v]) (hn:=fun _=>rfl) h.bo.size,fun g hg=>?_⟩
 have h1:=(hr b).block g hg
 refine ⟨fun e=>by have:=(h.bo.own.block g e).2; omega,fun p hp=>by have:=h.bo.plt hp; omega,fun y hy c e=>?_,fun c hc e=>hd b c hc g hg e⟩
 obtain ⟨i,hi⟩:=List.mem_iff_getElem?.1 hy
 have:=((h.row c i y hi).1.block g e).2
 omega
theorem NGNew.below (h:NGNew inn pv eI w l v P x' wx) (hb:Below wx.heap.size wx wy):NGNew inn pv eI w l v P x' wy:=fun b=>⟨(h b).1.below hb,(h b).2⟩
theorem NGNew.alloc (h:NGNew inn pv eI w l v P x' wx) (o:Obj):NGNew inn pv eI w l v P x' (wx.alloc o):=h.below ((Below.refl _ wx).alloc (Nat.le_refl _) o)
theorem NG.oneAt {g:Nat} (hb:Below w.heap.size w wx) (hg:wx.heap[g]? = some (.cells (enc x').toArray e (0,0))) (hw:w.heap.size ≤ g) (hr:∀ b,Own valR wx w.heap.size w.heap.size (eI b) (inn b x') (pv b x')) (hd:∀ b c,c ≠ b → Dis (pv b x') (pv c x')) (hne:∀ b,(pv b x').ownBlock ≠ some g):NGF n enc hn inn pv e eI w [x'] (.slice (some ⟨g,0,none⟩) 1 1) [] wx:=by
 refine ⟨⟨hb,Own.at1 hg hw,fun p hp=>by cases hp⟩,fun b i x hx=>?_,fun b c i j x y hx hy hij=>?_⟩
 ·cases i with
  | zero=>
   simp at hx; subst hx
   exact ⟨hr b,fun k hk=>⟨fun e=>by injection e with e; exact hne b (by rw [hk]; exact congrArg some e.symm),fun p hp=>by cases hp⟩⟩
  | succ i=>simp at hx
 ·cases i with
  | succ i=>simp at hx
  | zero=>
   cases j with
   | succ j=>simp at hy
   | zero=>
    simp at hx hy; subst hx; subst hy
    rcases hij with hij | hij
    ·exact absurd rfl hij
    ·exact hd b c (fun e=>hij e.symm)
theorem NG.one (hb:Below w.heap.size w wx) (hr:∀ b,Own valR wx w.heap.size w.heap.size (eI b) (inn b x') (pv b x')) (hd:∀ b c,c ≠ b → Dis (pv b x') (pv c x')):NGF n enc hn inn pv e eI w [x'] (.slice (some ⟨wx.heap.size,0,none⟩) 1 1) [] (wx.alloc (.cells (enc x').toArray e)):=by
 have hal:=(Below.refl wx.heap.size wx).alloc (Nat.le_refl _) (.cells (enc x').toArray e)
 exact NG.oneAt (hb.trans (hal.mono hb.size)) (heap_alloc_new wx _) hb.size (fun b=>(hr b).below hal) hd (fun b e=>by have:=((hr b).block _ e).2; omega)
theorem NG.push {v':Value} {g:Nat} (h:NGF n enc hn inn pv e eI w l v P wx) (hx:NGNew inn pv eI w l v P x' wx) (hown:Own (Rep.flat n enc hn) wy w.heap.size w.heap.size e (l ++ [x']) v') (hg:wx.grownBy wy v.ownBlock) (hv:v'.ownBlock = some g) (hat:v.ownBlock = some g ∨ g = wx.heap.size) :
  NGF n enc hn inn pv e eI w (l ++ [x']) v' P wy:=by
 have hlast:∀ (i:Nat) x,(l ++ [x'])[i]? = some x → (i < l.length ∧ l[i]? = some x) ∨ (i = l.length ∧ x = x'):=fun i x hx=>by
  by_cases hil:i < l.length
  ·rw [List.getElem?_append_left hil] at hx; exact .inl ⟨hil,hx⟩
  ·have hlt:=(List.getElem?_eq_some_iff.1 hx).1
   simp at hlt
   have:i = l.length:=by omega
   subst this
   rw [List.getElem?_append_right (Nat.le_refl _)] at hx
   simp at hx
   exact .inr ⟨rfl,hx.symm⟩
 have hrow:∀ {T:TypeId} {ps:List Value} {u:Value},Own valR wx w.heap.size w.heap.size T ps u → (∀ k,u.ownBlock = some k → v.ownBlock ≠ some k) → Own valR wy w.heap.size w.heap.size T ps u ∧ ∀ k,u.ownBlock = some k → v'.ownBlock ≠ some k:=fun ho hne=>
  ⟨ho.keepF (enc:=fun v:Value=>[v]) (hn:=fun _=>rfl) (fun k hk=>hg.block k (ho.block k hk).2 (fun e=>hne k hk e.symm)) hg.size,fun k hk e=>by
   rw [hv] at e
   injection e with e
   rcases hat with hat | hat
   ·exact hne k hk (by rw [hat,e])
   ·have:=(ho.block k hk).2; omega⟩
 refine ⟨h.bo.more hown hg hv hat,fun b i x hxi=>?_,fun b c i j x y hxi hyj hij=>?_⟩
 ·rcases hlast i x hxi with ⟨hil,hxi⟩ | ⟨_,rfl⟩
  ·have hr:=h.row b i x hxi
   obtain ⟨p,q⟩:=hrow hr.1 (fun k hk=>(hr.2 k hk).1)
   exact ⟨p,fun k hk=>⟨q k hk,(hr.2 k hk).2⟩⟩
  ·obtain ⟨p,q⟩:=hrow (hx b).1 (fun k hk=>((hx b).2 k hk).1)
   exact ⟨p,fun k hk=>⟨q k hk,((hx b).2 k hk).2.1⟩⟩
 ·rcases hlast i x hxi with ⟨hil,hxl⟩ | ⟨hi2,rfl⟩
  ·rcases hlast j y hyj with ⟨hjl,hyl⟩ | ⟨hj2,rfl⟩
   ·exact h.dis b c i j x y hxl hyl hij
   ·exact fun k h1 h2=>((hx c).2 k h2).2.2.1 x (List.mem_of_getElem? hxl) b h1
  ·rcases hlast j y hyj with ⟨hjl,hyl⟩ | ⟨hj2,rfl⟩
   ·exact fun k h1 h2=>((hx b).2 k h1).2.2.1 y (List.mem_of_getElem? hyl) c h2
   ·rcases hij with hij | hij
    ·omega
    ·exact fun k h1 h2=>((hx b).2 k h1).2.2.2 c (fun e=>hij e.symm) h2
theorem NG.inner {g0 M cap k j:Nat} {b:ι} (h:NGF n enc hn inn pv e eI w l (.slice (some ⟨g0,0,none⟩) M cap) P wx) (hk:k < l.length) {u:Value} {g':Nat} {li:List Value}
  (hown:Own valR wy w.heap.size w.heap.size (eI b) li u) (hg:wx.grownBy wy (pv b l[k]).ownBlock) (hv:u.ownBlock = some g') (hat:(pv b l[k]).ownBlock = some g' ∨ wx.heap.size ≤ g')
  (f:α → α) (hf:∀ x,enc (f x) = (enc x).set j u) (hj:j < n) (hinn:inn b (f l[k]) = li) (hpv:pv b (f l[k]) = u) (hoth:∀ c,c ≠ b → inn c (f l[k]) = inn c l[k] ∧ pv c (f l[k]) = pv c l[k]) :
  NGF n enc hn inn pv e eI w (l.modify k f) (.slice (some ⟨g0,0,none⟩) M cap) P (wy.setCell ⟨g0,k * n + j,none⟩ u):=by
 have hrk:=h.row b k l[k] (List.getElem?_eq_getElem hk)
 have h0:=h.bo.own.block g0 rfl
 have hz:=h.bo.size
 have hne:∀ q,(pv b l[k]).ownBlock = some q → q ≠ g0:=fun q hq e=>(hrk.2 q hq).1 (by rw [e]; rfl)
 have hg0:g' ≠ g0:=by
  rcases hat with hat | hat
  ·exact hne g' hat
  ·omega
 have hbo:BO (Rep.flat n enc hn) e w l (.slice (some ⟨g0,0,none⟩) M cap) P wy:=by
  refine ⟨h.bo.bel.grown hg hz (fun q hq=>(hrk.1.block q hq).1),h.bo.own.keepF (fun q hq=>?_) hg.size,fun p hp=>?_⟩
  ·injection hq with hq; subst hq
   exact hg.block _ h0.2 (fun e=>hne _ e.symm rfl)
  ·obtain ⟨k1,k2,k3⟩:=h.bo.prv p hp
   exact ⟨(hg.block p.1 (heap_lt k1) (fun e=>(hrk.2 p.1 e.symm).2 p hp rfl)).trans k1,k2,k3⟩
 have hmod:∀ (i:Nat) x,(l.modify k f)[i]? = some x → (i = k ∧ x = f l[k]) ∨ (i ≠ k ∧ l[i]? = some x):=fun i x hx=>by
  rw [List.getElem?_modify] at hx
  by_cases e:k = i
  ·subst e
   rw [List.getElem?_eq_getElem hk] at hx
   simp at hx
   exact .inl ⟨rfl,hx.symm⟩
  ·refine .inr ⟨fun e2=>e e2.symm,?_⟩
   rw [← hx]
   cases l[i]? <;> simp [e]
 have hold:∀ c i x,l[i]? = some x → (i ≠ k ∨ c ≠ b) → Own valR (wy.setCell ⟨g0,k * n + j,none⟩ u) w.heap.size w.heap.size (eI c) (inn c x) (pv c x):=fun c i x hx hik=>by
  have hr:=h.row c i x hx
  have hd:=h.dis c b i k x l[k] hx (List.getElem?_eq_getElem hk) hik
  exact (hr.1.keepF (enc:=fun v:Value=>[v]) (hn:=fun _=>rfl) (fun q hq=>hg.block q (hr.1.block q hq).2 (fun e=>hd q hq e.symm)) hg.size).keepF (enc:=fun v:Value=>[v]) (hn:=fun _=>rfl) (fun q hq=>Below.heap_setCell wy ⟨g0,k * n + j,none⟩ u q (fun e=>(hr.2 q hq).1 (by rw [e]; rfl))) (by simp [World.setCell])
 have hdu:∀ c i x,l[i]? = some x → (i ≠ k ∨ c ≠ b) → Dis (pv c x) u:=fun c i x hx hik q hq hu=>by
  rw [hv] at hu; injection hu with hu; subst hu
  rcases hat with hat | hat
  ·exact h.dis c b i k x l[k] hx (List.getElem?_eq_getElem hk) hik _ hq hat
  ·have:=((h.row c i x hx).1.block _ hq).2; omega
 have hwh:∀ c i x,(l.modify k f)[i]? = some x → (i = k ∧ c = b ∧ inn c x = li ∧ pv c x = u) ∨ ((i ≠ k ∨ c ≠ b) ∧ ∃ y,l[i]? = some y ∧ inn c x = inn c y ∧ pv c x = pv c y):=fun c i x hx=>by
  rcases hmod i x hx with ⟨rfl,rfl⟩ | ⟨hik,hx⟩
  ·by_cases hc:c = b
   ·subst hc; exact .inl ⟨rfl,rfl,hinn,hpv⟩
   ·exact .inr ⟨.inr hc,l[i],List.getElem?_eq_getElem hk,(hoth c hc).1,(hoth c hc).2⟩
  ·exact .inr ⟨.inl hik,x,hx,rfl,rfl⟩
 refine ⟨hbo.modify f k j u hf hj hk,fun c i x hx=>?_,fun c d i i2 x y hx hy hij=>?_⟩
 ·rcases hwh c i x hx with ⟨_,rfl,e1,e2⟩ | ⟨hik,y,hy,e1,e2⟩
  ·rw [e1,e2]
   refine ⟨hown.keepF (enc:=fun v:Value=>[v]) (hn:=fun _=>rfl) (fun q hq=>Below.heap_setCell wy ⟨g0,k * n + j,none⟩ u q (fun e=>?_)) (by simp [World.setCell]),fun q hq=>?_⟩
   ·rw [hv] at hq; injection hq with hq; exact hg0 (hq.trans e)
   ·rw [hv] at hq; injection hq with hq; subst hq
    refine ⟨fun e=>hg0 (by injection e with e; exact e.symm),fun p hp e=>?_⟩
    rcases hat with hat | hat
    ·exact (hrk.2 _ hat).2 p hp e
    ·have:=h.bo.plt hp; omega
  ·rw [e1,e2]
   exact ⟨hold c i y hy hik,(h.row c i y hy).2⟩
 ·rcases hwh c i x hx with ⟨i1,c1,_,e2⟩ | ⟨hik,x0,hx0,_,e2⟩
  ·rcases hwh d i2 y hy with ⟨i3,c3,_,e4⟩ | ⟨hik2,y0,hy0,_,e4⟩
   ·rcases hij with hij | hij
    ·exact absurd (i1.trans i3.symm) hij
    ·exact absurd (c1.trans c3.symm) hij
   ·rw [e2,e4]; exact (hdu d i2 y0 hy0 hik2).symm
  ·rcases hwh d i2 y hy with ⟨i3,c3,_,e4⟩ | ⟨hik2,y0,hy0,_,e4⟩
   ·rw [e2,e4]; exact hdu c i x0 hx0 hik
   ·rw [e2,e4]; exact h.dis c d i i2 x0 y0 hx0 hy0 hij
end
end
end Go.Proofs.YtaoobkgepcikiaaGreatDoor
