/- Texts packed: FrsT, FrsU, FrsV, SheT, FirS, FirT, PgoS, PgoW, LkQ, LkR, LkS. -/
import Derived.Test.YtaoobkgepcikiaaGreatDoorSc36
import Derived.Test.YtaoobkgepcikiaaGreatDoorSc41
import Derived.Test.YtaoobkgepcikiaaGreatDoorSc37
import Derived.Test.YtaoobkgepcikiaaGreatDoorSc39
import Derived.Test.YtaoobkgepcikiaaGreatDoorSc16
import Derived.Test.YtaoobkgepcikiaaGreatDoorSc01
namespace Go.Proofs.YtaoobkgepcikiaaGreatDoor
set_option linter.unusedVariables false
section
open Go.RowKit Go.Sort
def blkS:ByteArray:=⟨#[]⟩
def sN (φ:Int → ByteArray):List Blk → Nat → PgQ → (Nat → ByteArray) → Nat → ByteArray
 | [],_,_,s=>s
 | b :: r,i,q,s=>sN φ r (i + 1) (putB b r q).1 (gStep (topB b r q.2) (putB b r q).2 (φ (i:Int)) s)
theorem gStep_map {α β:Type} (φ:α → β) (t:Bool) (p:Nat) (x:α) (g:Nat → α):(fun j=>φ (gStep t p x g j)) = gStep t p (φ x) fun j=>φ (g j):=by
 cases t with
 | false=>rfl
 | true=>
  funext j
  by_cases h:j = p
  ·subst h; rw [gStep_at,gStep_at]
  ·rw [gStep_ne h,gStep_ne h]
theorem gN_map (φ:Int → ByteArray):∀ (l:List Blk) (i:Nat) (q:PgQ) (g:Nat → Int),(fun j=>φ (gN l i q g j)) = sN φ l i q fun j=>φ (g j)
 | [],_,_,_=>rfl
 | b :: r,i,q,g=>by
  show (fun j=>φ (gN r (i + 1) (putB b r q).1 (gStep (topB b r q.2) (putB b r q).2 (i:Int) g) j)) = sN φ r (i + 1) (putB b r q).1 (gStep (topB b r q.2) (putB b r q).2 (φ (i:Int)) fun j=>φ (g j))
  rw [gN_map φ r,gStep_map]
def posQ (q:PgQ):Nat:=if q.2 = [] then q.1.length else q.1.length + 1
def BlankS (s:Nat → ByteArray) (q:PgQ):Prop:=∀ j,posQ q ≤ j → s j = blkS
theorem put_at {b:Blk} {r:List Blk} {q:PgQ} (h:topB b r q.2 = true):(putB b r q).2 = posQ q:=by
 show (if topB b r q.2 = true ∧ ¬ q.2 = [] then q.1 ++ [q.2] else q.1).length = _
 unfold posQ
 by_cases hq:q.2 = []
 ·rw [if_neg (fun h=>h.2 hq),if_pos hq]
 ·rw [if_pos ⟨h,hq⟩,if_neg hq,List.length_append]; rfl
theorem put_pos {b:Blk} (hb:GoodB b) (r:List Blk) (q:PgQ) (h54:q.2.length ≤ 54):(putB b r q).2 < posQ (putB b r q).1 ∧ posQ q ≤ posQ (putB b r q).1 ∧ (putB b r q).1.2.length ≤ 54:=by
 obtain ⟨h1,h2⟩:=putB_inv hb r q h54
 have e:posQ (putB b r q).1 = (putB b r q).1.1.length + 1:=by unfold posQ; rw [if_neg h1]
 have hge:(putB b r q).2 ≤ (putB b r q).1.1.length:=fillB_ge b _ _ _ _
 have hq:posQ q ≤ (putB b r q).2 + 1:=by
  show posQ q ≤ (if topB b r q.2 = true ∧ ¬ q.2 = [] then q.1 ++ [q.2] else q.1).length + 1
  unfold posQ
  split <;> split <;> first | omega | (rw [List.length_append]; omega)
 omega
theorem blank_step {s:Nat → ByteArray} {b:Blk} {r:List Blk} {q:PgQ} (hb:GoodB b) (h54:q.2.length ≤ 54) (hs:BlankS s q) (x:ByteArray):BlankS (gStep (topB b r q.2) (putB b r q).2 x s) (putB b r q).1:=fun j hj=>by
 obtain ⟨h1,h2,_⟩:=put_pos hb r q h54
 rw [gStep_ne (by omega)]
 exact hs j (by omega)
theorem sN_tail (φ:Int → ByteArray) (R:List Blk):∀ (t:List Blk) (i:Nat) (q:PgQ) (s:Nat → ByteArray),(∀ b ∈ t,GoodB b) → q.2.length ≤ 54 → BlankS s q → (∀ k,k < t.length → φ ((i + k:Nat):Int) = blkS) →
  sN φ (t ++ R) i q s = sN φ R (i + t.length) (runB t R q).1 s ∧ (runB t R q).1.2.length ≤ 54 ∧ BlankS s (runB t R q).1
 | [],i,q,s,_,h54,hs,_=>⟨rfl,h54,hs⟩
 | b :: t,i,q,s,hb,h54,hs,hφ=>by
  have hgb:=hb b (List.mem_cons_self ..)
  have h0:φ (i:Int) = blkS:=hφ 0 (by simp)
  have hsame:gStep (topB b (t ++ R) q.2) (putB b (t ++ R) q).2 (φ (i:Int)) s = s:=by
   cases ht:topB b (t ++ R) q.2 with
   | false=>rfl
   | true=>
    funext j
    by_cases hj:j = (putB b (t ++ R) q).2
    ·subst hj
     rw [gStep_at,h0]
     exact (hs _ (by rw [put_at ht]; exact Nat.le_refl _)).symm
    ·rw [gStep_ne hj]
  have hbl:BlankS s (putB b (t ++ R) q).1:=by
   have:=blank_step (r:=t ++ R) hgb h54 hs (φ (i:Int))
   rw [hsame] at this
   exact this
  have ih:=sN_tail φ R t (i + 1) (putB b (t ++ R) q).1 s (fun y hy=>hb y (List.mem_cons_of_mem _ hy)) (put_pos hgb _ _ h54).2.2 hbl (fun k hk=>by
   have:=hφ (k + 1) (by simp; omega)
   rw [show i + (k + 1) = i + 1 + k by omega] at this
   exact this)
  show sN φ (t ++ R) (i + 1) (putB b (t ++ R) q).1 (gStep (topB b (t ++ R) q.2) (putB b (t ++ R) q).2 (φ (i:Int)) s) = _ ∧ _
  rw [hsame,List.length_cons,show i + (t.length + 1) = i + 1 + t.length by omega]
  exact ih
def firR:List (List Blk) → List ByteArray → PgQ → (Nat → ByteArray) → Nat → ByteArray
 | l :: L,no :: nos,q,s=>firR L nos (runB l L.flatten q).1 (match l with
  | []=>s
  | b :: t=>gStep (topB b (t ++ L.flatten) q.2) (putB b (t ++ L.flatten) q).2 no s)
 | _,_,_,s=>s
def PhiOk (φ:Int → ByteArray):Nat → List (List Blk) → List ByteArray → Prop
 | i,l :: L,no :: nos=>φ (i:Int) = no ∧ (∀ k,1 ≤ k → k < l.length → φ ((i + k:Nat):Int) = blkS) ∧ PhiOk φ (i + l.length) L nos
 | _,[],[]=>True
 | _,_,_=>False
theorem sN_fir (φ:Int → ByteArray):∀ (L:List (List Blk)) (nos:List ByteArray) (i:Nat) (q:PgQ) (s:Nat → ByteArray),(∀ l ∈ L,l ≠ [] ∧ ∀ b ∈ l,GoodB b) → q.2.length ≤ 54 → BlankS s q → PhiOk φ i L nos →
  sN φ L.flatten i q s = firR L nos q s
 | [],[],_,_,_,_,_,_,_=>rfl
 | [],_ :: _,_,_,_,_,_,_,h=>h.elim
 | _ :: _,[],_,_,_,_,_,_,h=>h.elim
 | l :: L,no :: nos,i,q,s,hL,h54,hs,hφ=>by
  obtain ⟨h1,h2,h3⟩:=hφ
  obtain ⟨hne,hg⟩:=hL l (List.mem_cons_self ..)
  cases l with
  | nil=>exact absurd rfl hne
  | cons b t=>
   have hgb:=hg b (List.mem_cons_self ..)
   have hbl:=blank_step (r:=t ++ L.flatten) hgb h54 hs no
   obtain ⟨k1,k2,k3⟩:=sN_tail φ L.flatten t (i + 1) (putB b (t ++ L.flatten) q).1 (gStep (topB b (t ++ L.flatten) q.2) (putB b (t ++ L.flatten) q).2 no s) (fun y hy=>hg y (List.mem_cons_of_mem _ hy)) (put_pos hgb _ _ h54).2.2 hbl (fun k hk=>by
    have:=h2 (k + 1) (by omega) (by simp; omega)
    rw [show i + (k + 1) = i + 1 + k by omega] at this
    exact this)
   show sN φ (t ++ L.flatten) (i + 1) (putB b (t ++ L.flatten) q).1 (gStep (topB b (t ++ L.flatten) q.2) (putB b (t ++ L.flatten) q).2 (φ (i:Int)) s) = firR L nos (runB t L.flatten (putB b (t ++ L.flatten) q).1).1 (gStep (topB b (t ++ L.flatten) q.2) (putB b (t ++ L.flatten) q).2 no s)
   rw [h1,k1]
   have h3':PhiOk φ (i + 1 + t.length) L nos:=by
    rw [List.length_cons,show i + (t.length + 1) = i + 1 + t.length by omega] at h3
    exact h3
   exact sN_fir φ L nos (i + 1 + t.length) _ _ (fun y hy=>hL y (List.mem_cons_of_mem _ hy)) k2 k3 h3'
end
section
open Go.RowKit Go.Sort
section
variable (xs:List Scene) (nos:List ByteArray)
def offB (k:Nat):Nat:=(allB2 xs (nos.take k)).length
theorem offB_step {k:Nat} (hk:k < nos.length):offB xs nos (k + 1) = offB xs nos k + (entB xs nos[k]).length:=by
 unfold offB
 rw [allB2_step hk,List.length_append]
theorem offB_lt (hne:∀ no,entB xs no ≠ []):∀ (d k:Nat),k + d + 1 ≤ nos.length → offB xs nos k < offB xs nos (k + d + 1)
 | 0,k,h=>by
  rw [offB_step xs nos (by omega)]
  have:=List.length_pos_iff.2 (hne (nos[k]'(by omega)))
  omega
 | d + 1,k,h=>by
  have h1:=offB_lt hne d k (by omega)
  rw [show k + (d + 1) + 1 = (k + d + 1) + 1 by omega,offB_step xs nos (by omega)]
  omega
theorem offB_lt' (hne:∀ no,entB xs no ≠ []) {j k:Nat} (h:j < k) (hk:k ≤ nos.length):offB xs nos j < offB xs nos k:=by
 have:=offB_lt xs nos hne (k - j - 1) j (by omega)
 rwa [show j + (k - j - 1) + 1 = k by omega] at this
theorem hdM_at (hne:∀ no,entB xs no ≠ []):∀ (K:Nat) (hK:K ≤ nos.length) (k:Nat) (hk:k < K),lk (hdM xs nos K) ((offB xs nos k:Nat):Int) = some (.string (nos[k]'(by omega)))
 | 0,_,k,hk=>by omega
 | K + 1,hK,k,hk=>by
  rw [hdM_step (by omega:K < nos.length),lk_up]
  by_cases h:k = K
  ·subst h
   exact if_pos rfl
  ·have hlt:=offB_lt' xs nos hne (show k < K by omega) (by omega)
   have hne2:¬ ((offB xs nos k:Nat):Int) = ((allB2 xs (nos.take K)).length:Int):=by
    show ¬ ((offB xs nos k:Nat):Int) = ((offB xs nos K:Nat):Int)
    omega
   rw [if_neg (fun e=>hne2 (by first | exact e | exact e.symm))]
   exact hdM_at hne K (by omega) k (by omega)
theorem hdM_no:∀ (K:Nat),K ≤ nos.length → ∀ z:Int,(∀ k,k < K → ¬ z = ((offB xs nos k:Nat):Int)) → lk (hdM xs nos K) z = none
 | 0,_,_,_=>rfl
 | K + 1,hK,z,hz=>by
  rw [hdM_step (by omega:K < nos.length),lk_up]
  have h0:=hz K (by omega)
  have h0':¬ z = ((allB2 xs (nos.take K)).length:Int):=h0
  rw [if_neg (fun e=>h0' (by first | exact e | exact e.symm))]
  exact hdM_no K (by omega) z fun k hk=>hz k (by omega)
theorem phi_ok (hne:∀ no,entB xs no ≠ []):∀ (d k:Nat),k + d = nos.length → PhiOk (fun z=>strV (lk (hdM xs nos nos.length) z)) (offB xs nos k) ((nos.drop k).map (entB xs)) (nos.drop k)
 | 0,k,h=>by
  rw [List.drop_of_length_le (by omega)]
  trivial
 | d + 1,k,h=>by
  have hk:k < nos.length:=by omega
  rw [List.drop_eq_getElem_cons hk,List.map_cons]
  refine ⟨?_,fun m h1 h2=>?_,?_⟩
  ·dsimp only
   rw [hdM_at xs nos hne nos.length (Nat.le_refl _) k hk]
   rfl
  ·dsimp only
   rw [hdM_no xs nos nos.length (Nat.le_refl _) _ (fun j hj e=>?_)]
   ·rfl
   ·have hs:=offB_step xs nos hk
    have e:offB xs nos k + m = offB xs nos j:=by omega
    rcases Nat.lt_trichotomy j k with hlt | rfl | hlt
    ·have:=offB_lt' xs nos hne hlt (by omega)
     omega
    ·omega
    ·by_cases hj2:j = k + 1
     ·subst hj2; omega
     ·have:=offB_lt' xs nos hne (show k + 1 < j by omega) (by omega)
      omega
  ·have ih:=phi_ok hne d (k + 1) (by omega)
   rw [offB_step xs nos hk] at ih
   exact ih
theorem frsS_fir (hne:∀ no,entB xs no ≠ []) (hg:∀ no ∈ nos,∀ b ∈ entB xs no,GoodB b) :
  frsS xs nos = (List.range (pagesB (allB2 xs nos)).length).map (firR (nos.map (entB xs)) nos ([],[]) fun _=>blkS):=by
 unfold frsS
 rw [frsB_g,List.map_map]
 apply List.map_congr_left
 intro j _
 show strV (lk (hdM xs nos nos.length) (gN (allB2 xs nos) 0 ([],[]) (fun _=>-1) j)) = _
 have h1:=congrFun (gN_map (fun z=>strV (lk (hdM xs nos nos.length) z)) (allB2 xs nos) 0 ([],[]) (fun _=>-1)) j
 rw [show strV (lk (hdM xs nos nos.length) (gN (allB2 xs nos) 0 ([],[]) (fun _=>-1) j)) = _ from h1]
 have hm1:strV (lk (hdM xs nos nos.length) (-1)) = blkS:=by
  rw [hdM_no xs nos nos.length (Nat.le_refl _) (-1) (fun k _ e=>by omega)]
  rfl
 rw [hm1]
 have hp:=phi_ok xs nos hne nos.length 0 (by omega)
 rw [List.drop_zero] at hp
 have h2:=sN_fir (fun z=>strV (lk (hdM xs nos nos.length) z)) (nos.map (entB xs)) nos 0 ([],[]) (fun _=>blkS) (fun l hl=>by
  obtain ⟨no,hno,rfl⟩:=List.mem_map.1 hl
  exact ⟨hne no,hg no hno⟩) (by decide) (fun _ _=>rfl) hp
 exact congrFun h2 j
end
end
section
open Go.RowKit Go.Sort
theorem cmpN_self (a:ByteArray):cmpN a a = 0:=by
 unfold cmpN
 rw [orI_two,cb_self]
 unfold Lib.compareInt
 rw [if_neg (Int.lt_irrefl _),if_neg (Int.lt_irrefl _)]
 rfl
theorem fold_no (s:ByteArray):∀ (l:List Scene) (r:Option Scene),(∀ y ∈ l,¬ s = y.no) → l.foldl (fun r y=>if s = y.no then some y else r) r = r
 | [],_,_=>rfl
 | y :: l,r,h=>by
  rw [List.foldl_cons,if_neg (h y (List.mem_cons_self ..))]
  exact fold_no s l r fun z hz=>h z (List.mem_cons_of_mem _ hz)
theorem fndX_own {xs:List Scene} (hd:∀ (i j:Nat) (_:i < j) (hj:j < xs.length),¬ xs[j].no = (xs[i]'(by omega)).no) (k:Nat) (hk:k < xs.length):fndX xs xs[k].no = some xs[k]:=by
 have e:xs = xs.take k ++ xs[k] :: xs.drop (k + 1):=by rw [← List.drop_eq_getElem_cons hk,List.take_append_drop]
 unfold fndX
 conv=>lhs; arg 3; rw [e]
 rw [List.foldl_append,List.foldl_cons,if_pos rfl]
 apply fold_no
 intro y hy
 obtain ⟨m,hm,rfl⟩:=List.mem_iff_getElem.1 hy
 rw [List.length_drop] at hm
 rw [List.getElem_drop]
 have:=hd k (k + 1 + m) (by omega) (by omega)
 exact fun h=>this h.symm
theorem nb_dis {xs:List Scene} (h:NbOk xs) (i j:Nat) (hij:i < j) (hj:j < xs.length):¬ xs[j].no = (xs[i]'(by omega)).no:=by
 have hr:=ris_all (l:=xs.map (·.no)) (fun i hi=>by
  rw [List.length_map] at hi
  rw [List.getElem_map,List.getElem_map]
  exact h.2.2 i hi) (j - i - 1) i (by rw [List.length_map]; omega)
 have e:i + (j - i - 1) + 1 = j:=by omega
 simp only [e,List.getElem_map] at hr
 intro he
 rw [he,cmpN_self] at hr
 omega
theorem entB_own {xs:List Scene} (h:NbOk xs):(xs.map (·.no)).map (entB xs) = xs.map blocksS:=by
 apply List.ext_getElem
 ·simp
 ·intro k h1 h2
  rw [List.length_map] at h2
  rw [List.getElem_map,List.getElem_map,List.getElem_map]
  unfold entB
  rw [fndX_own (nb_dis h) k h2]
theorem entB_ne (xs:List Scene) (no:ByteArray):entB xs no ≠ []:=by
 unfold entB
 cases fndX xs no with
 | none=>exact List.cons_ne_nil _ _
 | some x=>
  obtain ⟨a,t,e,_⟩:=blocks_shape x
  dsimp only
  rw [e]
  exact List.cons_ne_nil _ _
theorem lk_own {xs:List Scene} (h:NbOk xs):lkPg xs = pagesB ((xs.map blocksS).flatten) ∧ lkFr xs = (List.range (lkPg xs).length).map (firR (xs.map blocksS) (xs.map (·.no)) ([],[]) fun _=>blkS):=by
 have e:=entB_own h
 have e2:allB2 xs (xs.map (·.no)) = (xs.map blocksS).flatten:=by unfold allB2; rw [e]
 refine ⟨by unfold lkPg; rw [e2],?_⟩
 unfold lkFr lkPg
 rw [frsS_fir xs _ (entB_ne xs) (fun no hno b hb=>?_),e]
 obtain ⟨x,hx,rfl⟩:=List.mem_map.1 hno
 obtain ⟨k,hk,rfl⟩:=List.mem_iff_getElem.1 hx
 unfold entB at hb
 rw [fndX_own (nb_dis h) k hk] at hb
 exact blocks_good (h.1 _ (List.getElem_mem hk)).1 b hb
end
section
open Go.RowKit Go.Sort
def tpR:List (List Blk) → PgQ → List Bool
 | [],_=>[]
 | l :: L,q=>(match l with
  | []=>false
  | b :: t=>topB b (t ++ L.flatten) q.2) :: tpR L (runB l L.flatten q).1
def tpV (L:List (List Blk)) (q:PgQ):List Value:=(tpR L q).map Value.bool
theorem tpV_cons (b:Blk) (t:List Blk) (L:List (List Blk)) (q:PgQ):tpV ((b :: t) :: L) q = .bool (topB b (t ++ L.flatten) q.2) :: tpV L (runB t L.flatten (putB b (t ++ L.flatten) q).1).1:=rfl
def LdrT (xs:List Scene) (w:World) (e:Ending) (w':World):Prop:=∃ (Qs:List PgL) (v sV tV:Value),e = .returned (.tuple #[v,sV,tV]) ∧ Qs.map (·.1) = pagesB ((xs.map blocksS).flatten) ∧ MR w ((31,Qs.map (·.2),v) :: (Qs.map rowP ++ [stRow (stR (xs.map blocksS) ([],[])) sV,tpRow (tpV (xs.map blocksS) ([],[])) tV])) [] w'
set_option maxRecDepth 100000 in
set_option maxHeartbeats 16000000 in
theorem laidT_c {F:Nat → Prop} (L:List ScB) (A:Option Addr) (c:Nat) (w:World) (h:RbS w F L (.slice A L.length c)) (hF:∀ q,F q → q < w.heap.size) (xs:List Scene) (hx:L.map (fun y=>y.1.map (·.1)) = xs.map blocksS) (hl:xs.length ≤ 91) (hok:∀ x ∈ xs,LnOk x) (hpn:∀ x ∈ xs,x.paras.length ≤ 61) :
  Calls Tryz.prog 58 #[.slice A L.length c] w (LdrT xs w):=by
 obtain ⟨i0,hi0,hz0,hz1,hz2⟩:=info_parts (show (Tryz.prog.info? 3).map (fun i=>(i.zero,i.size,i.bytes)) = some (some (.int .i64 0),1,8) by kernel_rfl)
 obtain ⟨i1,hi1,hy0,hy1,hy2⟩:=info_parts (show (Tryz.prog.info? 4).map (fun i=>(i.zero,i.size,i.bytes)) = some (some (.bool false),1,1) by kernel_rfl)
 have hLx:L.length = xs.length:=by have:=congrArg List.length hx; rw [List.length_map,List.length_map] at this; exact this
 obtain ⟨NL,hNL⟩:∃ n,L.length = n:=⟨_,rfl⟩
 have HNL:=Lib.hid hNL
 have HXL:=Lib.hid (show xs.length = NL by omega)
 have HRB:=Lib.hid (fun (W:World) (hb:Below w.heap.size w W)=>h.below hb hF)
 have HF:=Lib.hid hF
 have HX:=Lib.hid hx
 have HFF:=Lib.hid (flat_few xs hok hpn)
 have HNM:=Lib.hid (flat_nm xs)
 have hl91:NL ≤ 91:=by omega
 obtain ⟨TA,hTA⟩:∃ TA,(layB ((xs.map blocksS).flatten) [] [] []).1 = TA:=⟨_,rfl⟩
 obtain ⟨TB,hTB⟩:∃ TB,(layB ((xs.map blocksS).flatten) [] [] []).2.1 = TB:=⟨_,rfl⟩
 obtain ⟨TS,hTS⟩:∃ TS,stR (xs.map blocksS) ([],[]) = TS:=⟨_,rfl⟩
 have HTT:=Lib.hid (And.intro hTA (And.intro hTB hTS))
 obtain ⟨TT,hTP⟩:∃ TT,tpV (xs.map blocksS) ([],[]) = TT:=⟨_,rfl⟩
 have HTP:=Lib.hid hTP
 have hb62:=(flat_few xs hok hpn).1
 have HB62:=Lib.hid (fun x (hx:x ∈ xs)=>blocks_few (hok x hx) (hpn x hx))
 have m0:=((((MR.start w).new #[.slice none 0 0] 160).nil 4).nil 3).nil 31
 have G0:=Lib.hid (show ShM w w.heap.size [] (.slice none 0 0) [stRow [] (.slice none 0 0),tpRow [] (.slice none 0 0)] [] (w.alloc (.cells #[.slice none 0 0] 160)) from ⟨m0,fun x hx=>by cases hx⟩)
 rw [hNL] at HRB ⊢
 clear h hF hx hLx hNL hTA hTB hTS hTP hok hpn hl m0 hb62
 go_enter Tryz.func58,Tryz.ntmps58
 go_upto_region 2 with (fail)
 generalize w.alloc (.cells #[.slice none 0 0] 160) = W0 at *
 go_wp2
 go_loopw [3,4,13] (fun sv tv iv wr=>∃ (k:Nat) (q:PgQ) (st:List Nat) (tp:List Value) (Qs:List PgL) (v:Value),k ≤ NL ∧ iv = .int .i64 k ∧ q.2.length ≤ 54 ∧ q.1.length ≤ k * 62 * 8502 ∧ st.length = k ∧ tp.length = k ∧ Hid (q.2 = [] → q.1 = []) ∧ Hid (EqL (((xs.drop k).map blocksS).flatten) q TA TB) ∧ Hid (st ++ stR ((xs.drop k).map blocksS) q = TS ∧ tp ++ tpV ((xs.drop k).map blocksS) q = TT) ∧ Hid (Qs.map (·.1) = stQ q) ∧ Hid (ShM w w.heap.size Qs v [stRow st sv,tpRow tp tv] [] wr)) (fun _ _ iv _=>NL - (intOf iv).toNat)
 case atStart=>exact ⟨0,([],[]),[],[],[],_,Nat.zero_le _,rfl,by decide,Nat.zero_le _,rfl,rfl,(fun _=>rfl),⟨HTT.out.1,HTT.out.2.1⟩,⟨HTT.out.2.2,HTP.out⟩,rfl,G0⟩
 case round=>
  clear G0
  obtain ⟨k,q,st,tp,Qs,v,hk,rfl,h54,hql,hsl,htl,HQ0,HE,HS,HQ,HG⟩:=hrel
  obtain ⟨⟨As,qs,es⟩,⟨At,qt,et⟩⟩:(∃ A c,u3 = .slice A st.length c) ∧ ∃ A c,u4 = .slice A tp.length c:=by
   obtain ⟨A1,c1,e1⟩:=own_sl (HG.out.fronts.own _ (List.mem_cons_self ..))
   obtain ⟨A2,c2,e2⟩:=own_sl (HG.out.frontt.own _ (List.mem_cons_self ..))
   have e1':u3 = .slice A1 (st.map (fun k:Nat=>Value.int .i64 (k:Int))).length c1:=e1
   have e2':u4 = .slice A2 tp.length c2:=e2
   rw [List.length_map] at e1'
   exact ⟨⟨A1,c1,e1'⟩,⟨A2,c2,e2'⟩⟩
  subst es
  subst et
  by_cases hlt:k < NL
  ·have hkL:k < L.length:=by rw [HNL.out]; exact hlt
   have hkx:k < xs.length:=by rw [HXL.out]; exact hlt
   have hkm:k < (L.map (·.2)).length:=by rw [List.length_map]; exact hkL
   have hbel:=HG.out.mr.bel
   obtain ⟨b,off,rfl,hfb,c0⟩:=valAt (HRB.out wr hbel).sli k hkm
   rw [List.getElem_map] at c0
   obtain ⟨A3,c3,e3,_,_⟩:=((HRB.out wr hbel).blk _ (List.getElem_mem hkL)).form
   rw [e3] at c0
   have HPB:=Lib.hid (fun (W:World) (hb:Below w.heap.size w W)=>show Sli rbR W F (L[k]'hkL).1 (.slice A3 (L[k]'hkL).1.length c3) ∧ (∀ x ∈ (L[k]'hkL).1,Sli strR W F x.1.lines x.2.1) ∧ ∀ x ∈ (L[k]'hkL).1,Sli boR W F x.1.kinds x.2.2 from ⟨e3 ▸ (HRB.out W hb).blk _ (List.getElem_mem hkL),fun x hx=>(HRB.out W hb).ln _ (List.getElem_mem hkL) x hx,fun x hx=>(HRB.out W hb).kd _ (List.getElem_mem hkL) x hx⟩)
   have hbs:(L[k]'hkL).1.map (·.1) = blocksS (xs[k]'hkx):=by
    have h1:(L.map (fun y=>y.1.map (·.1)))[k]? = (xs.map blocksS)[k]?:=by rw [HX.out]
    rw [List.getElem?_map,List.getElem?_map,List.getElem?_eq_getElem hkL,List.getElem?_eq_getElem hkx] at h1
    injection h1
   have HBS:=Lib.hid hbs
   have hdr:(xs.drop k).map blocksS = blocksS (xs[k]'hkx) :: (xs.drop (k + 1)).map blocksS:=by rw [List.drop_eq_getElem_cons hkx,List.map_cons]
   rw [hdr] at HE HS
   have HMEM:=Lib.hid (show ∀ y ∈ blocksS (xs[k]'hkx),y ∈ (xs.map blocksS).flatten from fun y hy=>List.mem_flatten.2 ⟨_,List.mem_map_of_mem (List.getElem_mem hkx),hy⟩)
   have HMER:=Lib.hid (show ∀ y ∈ ((xs.drop (k + 1)).map blocksS).flatten,y ∈ (xs.map blocksS).flatten from fun y hy=>by
    obtain ⟨l,hl,hy⟩:=List.mem_flatten.1 hy
    obtain ⟨x,hx,rfl⟩:=List.mem_map.1 hl
    exact List.mem_flatten.2 ⟨_,List.mem_map_of_mem (List.mem_of_mem_drop hx),hy⟩)
   have hsh:=blocks_shape (xs[k]'hkx)
   have hm62:=(HB62.out _ (List.getElem_mem hkx)).1
   obtain ⟨Ls,hLs⟩:∃ Ls,xs.drop (k + 1) = Ls:=⟨_,rfl⟩
   have HLS:=Lib.hid hLs
   rw [hLs] at HE HS HMER
   generalize (L[k]'hkL).1 = l at *
   generalize blocksS (xs[k]'hkx) = bs at *
   obtain ⟨m,hm⟩:∃ m,l.length = m:=⟨_,rfl⟩
   have hmb:bs.length = m:=by rw [← hbs,List.length_map,hm]
   have HM:=Lib.hid (And.intro hm hmb)
   rw [hm] at c0 HPB
   have hm0:0 < m:=by
    obtain ⟨a,t,e,_⟩:=hsh
    rw [← hmb,e]
    simp
   rw [hmb] at hm62
   have HSH:=Lib.hid hsh
   rw [List.flatten_cons] at HE
   obtain ⟨Rr,hRr⟩:∃ Rr,(Ls.map blocksS).flatten = Rr:=⟨_,rfl⟩
   have HRR:=Lib.hid hRr
   rw [hRr] at HE HMER
   clear hkL hkx hkm hbel e3 hbs hdr hsh hLs hm hmb hRr
   go_wp2
   go_loopw [3,4,19] (fun sv tv iv wr=>∃ (j:Nat) (q:PgQ) (st:List Nat) (tp:List Value) (Qs:List PgL) (v:Value),j ≤ m ∧ iv = .int .i64 j ∧ q.2.length ≤ 54 ∧ q.1.length ≤ (k * 62 + j) * 8502 ∧ st.length = (if j = 0 then k else k + 1) ∧ tp.length = (if j = 0 then k else k + 1) ∧ Hid (q.2 = [] → q.1 = []) ∧ Hid (EqL (bs.drop j ++ Rr) q TA TB) ∧ Hid ((j = 0 ∧ st ++ stR (bs :: Ls.map blocksS) q = TS ∧ tp ++ tpV (bs :: Ls.map blocksS) q = TT) ∨ (0 < j ∧ st ++ stR (Ls.map blocksS) (runB (bs.drop j) Rr q).1 = TS ∧ tp ++ tpV (Ls.map blocksS) (runB (bs.drop j) Rr q).1 = TT)) ∧ Hid (Qs.map (·.1) = stQ q) ∧ Hid (ShM w w.heap.size Qs v [stRow st sv,tpRow tp tv] [] wr)) (fun _ _ iv _=>m - (intOf iv).toNat)
   case atStart=>exact ⟨0,q,st,tp,Qs,v,Nat.zero_le _,rfl,h54,by rw [Nat.add_zero]; exact hql,by rw [if_pos rfl]; exact hsl,by rw [if_pos rfl]; exact htl,HQ0,HE,Lib.hid (.inl ⟨rfl,HS.out⟩),HQ,HG⟩
   case round=>
    clear HG HQ0 HE HS HQ c0 h54 hql hsl htl
    obtain ⟨j,q,st,tp,Qs,v,hj,rfl,h54,hql,hsl,htl,HQ0,HE,HS,HQ,HG⟩:=hrel
    obtain ⟨⟨As,qs,es⟩,⟨At,qt,et⟩⟩:(∃ A c,u3 = .slice A st.length c) ∧ ∃ A c,u4 = .slice A tp.length c:=by
     obtain ⟨A1,c1,e1⟩:=own_sl (HG.out.fronts.own _ (List.mem_cons_self ..))
     obtain ⟨A2,c2,e2⟩:=own_sl (HG.out.frontt.own _ (List.mem_cons_self ..))
     have e1':u3 = .slice A1 (st.map (fun k:Nat=>Value.int .i64 (k:Int))).length c1:=e1
     have e2':u4 = .slice A2 tp.length c2:=e2
     rw [List.length_map] at e1'
     exact ⟨⟨A1,c1,e1'⟩,⟨A2,c2,e2'⟩⟩
    subst es
    subst et
    by_cases hjm:j < m
    ·have hjl:j < l.length:=by rw [HM.out.1]; exact hjm
     have hjb:j < bs.length:=by rw [HM.out.2]; exact hjm
     have hbel:=HG.out.mr.bel
     obtain ⟨p1,p2,p3⟩:=HPB.out wr hbel
     obtain ⟨b3,off3,rfl,hfb3,c0,c1,c2⟩:=rbAt p1 j hjl
     obtain ⟨A4,cc4,e4,_,_⟩:=(p2 _ (List.getElem_mem hjl)).form
     obtain ⟨A5,cc5,e5,_,_⟩:=(p3 _ (List.getElem_mem hjl)).form
     rw [e4] at c1
     rw [e5] at c2
     have HLW:=Lib.hid (show Sli strR w F (l[j]'hjl).1.lines (.slice A4 (l[j]'hjl).1.lines.length cc4) ∧ ∀ W,Below w.heap.size w W → Sli boR W F (l[j]'hjl).1.kinds (.slice A5 (l[j]'hjl).1.kinds.length cc5) from ⟨e4 ▸ (HPB.out w (Below.refl _ _)).2.1 _ (List.getElem_mem hjl),fun W hb=>e5 ▸ (HPB.out W hb).2.2 _ (List.getElem_mem hjl)⟩)
     have heq:(l[j]'hjl).1 = bs[j]'hjb:=by
      have h1:(l.map (·.1))[j]? = bs[j]?:=by rw [HBS.out]
      rw [List.getElem?_map,List.getElem?_eq_getElem hjl,List.getElem?_eq_getElem hjb] at h1
      injection h1
     have hdrop:bs.drop j = bs[j]'hjb :: bs.drop (j + 1):=List.drop_eq_getElem_cons hjb
     have HD0:=Lib.hid (show j = 0 → bs = bs[j]'hjb :: bs.drop (j + 1) from fun h=>by subst h; exact hdrop)
     have hbm:=HMEM.out _ (List.getElem_mem hjb)
     have HGB:=Lib.hid (HFF.out.2 _ hbm)
     have HNB:=Lib.hid (HNM.out _ hbm)
     have hkd:(j = 0 → (bs[j]'hjb).kind = 0) ∧ (0 < j → ¬ (bs[j]'hjb).kind = 0):=by
      obtain ⟨a,t,e,h1,h2⟩:=HSH.out
      subst e
      refine ⟨fun h0=>by subst h0; exact h1,fun h0=>?_⟩
      obtain ⟨j',rfl⟩:∃ j',j = j' + 1:=⟨j - 1,by omega⟩
      exact h2 _ (List.getElem_mem (by simpa using hjb))
     have HND:=Lib.hid (need_le (b:=bs[j]'hjb) (r:=bs.drop (j + 1) ++ Rr) (M:=8500) (HFF.out.2 _ hbm).2.2 (fun y hy=>by
      rcases List.mem_append.1 hy with hy | hy
      ·exact (HFF.out.2 _ (HMEM.out y (List.mem_of_mem_drop hy))).2.2
      ·exact (HFF.out.2 _ (HMER.out y hy)).2.2))
     have HQL:=Lib.hid (show Qs.length ≤ 500000000 by
      have h1:=congrArg List.length HQ.out
      rw [List.length_map] at h1
      rw [h1]
      unfold stQ
      split
      ·omega
      ·rw [List.length_append,List.length_singleton]; omega)
     rw [hdrop] at HE HS
     rw [heq] at c0 c1 c2 HLW
     have HJ2:=Lib.hid (fun (h:j + 1 < m)=>show ∃ (h2:j + 1 < l.length) (h3:j + 1 < bs.length),(l[j + 1]'h2).1 = bs[j + 1]'h3 ∧ bs.drop (j + 1) = bs[j + 1]'h3 :: bs.drop (j + 2) ∧ (0 < j + 1 → ¬ (bs[j + 1]'h3).kind = 0) ∧ (bs[j + 1]'h3) ∈ (xs.map blocksS).flatten from by
      have h2:j + 1 < l.length:=by rw [HM.out.1]; exact h
      have h3:j + 1 < bs.length:=by rw [HM.out.2]; exact h
      refine ⟨h2,h3,?_,List.drop_eq_getElem_cons h3,fun _=>?_,HMEM.out _ (List.getElem_mem h3)⟩
      ·have h1:(l.map (·.1))[j + 1]? = bs[j + 1]?:=by rw [HBS.out]
       rw [List.getElem?_map,List.getElem?_eq_getElem h2,List.getElem?_eq_getElem h3] at h1
       injection h1
      ·obtain ⟨a,t,e,h1,h4⟩:=HSH.out
       subst e
       exact h4 _ (List.getElem_mem (by simpa using h3)))
     have HJ3:=Lib.hid (fun (h:¬ j + 1 < m)=>show bs.drop (j + 1) = [] from List.drop_eq_nil_of_le (by rw [HM.out.2]; omega))
     generalize bs[j]'hjb = bk at *
     clear hbel p1 p2 p3 e4 e5 heq hdrop hbm
     obtain ⟨n,hn⟩:∃ n,bk.lines.length = n:=⟨_,rfl⟩
     obtain ⟨n5,hn5⟩:∃ n,bk.kinds.length = n:=⟨_,rfl⟩
     have HN:=Lib.hid (And.intro hn hn5)
     have HFL:=Lib.hid (fun (W:World) (X:List Pc) (hW:ShM w w.heap.size Qs v [stRow st (.slice As st.length qs),tpRow tp (.slice At tp.length qt)] X W)=>fill_c w.heap.size Qs v [stRow st (.slice As st.length qs),tpRow tp (.slice At tp.length qt)] X bk A4 cc4 A5 bk.kinds.length cc5 (bs.drop (j + 1) ++ Rr) q W hW HQ.out HQ0.out h54 HGB.out.1 (by have:=HGB.out.2.2; omega) HLW.out.1 (HLW.out.2 w (Below.refl _ _)) HF.out (by have:=HND.out; omega) HQL.out (indS 20 bk.name) (by
      have h1:=HGB.out.2.1.2.2
      have h2:(indS 20 bk.name).size = 20 + bk.name.size:=by
       show (blanks 20 ++ bk.name:ByteArray).size = _
       rw [ByteArray.size_append,blanks_size]
      omega) (fun h3=>⟨HNB.out h3,rfl⟩))
     have HHD:=Lib.hid (fun (W:World) (hb:Below w.heap.size w W)=>headR_c bk A4 cc4 A5 bk.kinds.length cc5 W (by have:=HGB.out.2.2; omega) (HLW.out.2 W hb) (fun q hq=>Nat.lt_of_lt_of_le (HF.out q hq) hb.size) HGB.out.1.ks)
     have HPI:=Lib.hid (putB_inv HGB.out.1 (bs.drop (j + 1) ++ Rr) q h54)
     have HPL:=Lib.hid (show (putB bk (bs.drop (j + 1) ++ Rr) q).1.1.length ≤ (k * 62 + (j + 1)) * 8502 by
      have h1:=(putB_len bk (bs.drop (j + 1) ++ Rr) q).1
      have h2:=HGB.out.2.2
      omega)
     have hG1:=HG.out.new (rbA bk (.slice A4 bk.lines.length cc4) (.slice A5 bk.kinds.length cc5)) 162
     obtain ⟨la,hla⟩:∃ la,leastB bk = la:=⟨_,rfl⟩
     have hla2:la ≤ 8502:=by
      have h1:=leastB_le (b:=bk)
      have h2:=HGB.out.2.2
      omega
     have HLA:=Lib.hid hla
     unfold rbA at HFL HHD hG1
     rw [hn,hn5] at HFL HHD hG1
     rw [hn] at c1
     rw [hn5] at c2
     simp only [hla] at HHD
     clear hn hn5 hla HLW HG
     by_cases j0:j = 0
     ·have hk0:=hkd.1 j0
      have HJ0:=Lib.hid j0
      rw [rkN_0 _ hk0] at HFL HHD hG1 c0
      rw [if_pos j0] at hsl htl
      have HSLT:=Lib.hid (And.intro hsl htl)
      have hsb:st.length ≤ 92 ∧ tp.length ≤ 92:=⟨by omega,by omega⟩
      clear hsl htl
      have HS0:=Lib.hid (HS.out.resolve_right (fun h=>by have:=h.1; omega)).2
      have HK0:=Lib.hid hk0
      clear hkd hk0 HS j0
      go_upto_region 8 with (fail)
      generalize wr.alloc (.cells #[.int .i64 0,.slice A4 n cc4,.slice A5 n5 cc5] 162) = w1 at *
      generalize wr.heap.size = B at *
      have G1:=Lib.hid hG1
      clear hG1 c0 c1 c2
      have HBC:=Lib.hid (fun (W:World) (Qs:List PgL) (v:Value) (Rs:List Row) (h:ShM w w.heap.size Qs v Rs [(B,#[.int .i64 0,.slice A4 n cc4,.slice A5 n5 cc5],162)] W)=>show W.cell? ⟨B,0,none⟩ = some (.int .i64 0) ∧ W.cell? ⟨B,1,none⟩ = some (.slice A4 n cc4) ∧ W.cell? ⟨B,2,none⟩ = some (.slice A5 n5 cc5) from
       have y:=(h.mr.cell (p:=(B,#[.int .i64 0,.slice A4 n cc4,.slice A5 n5 cc5],162)) (by simp)).1
       ⟨y 0,y 1,y 2⟩)
      obtain ⟨d0,d1,d2⟩:=HBC.out w1 _ _ _ G1.out
      obtain ⟨nd,hnd⟩:∃ nd,needB bk (bs.drop (j + 1) ++ Rr) = nd:=⟨_,rfl⟩
      have HNE:=Lib.hid hnd
      rw [hnd] at HFL HND
      clear hnd
      go_wp2_with fail
      refine (HHD.out w1 G1.out.mr.bel).mono ?_
      rintro e w2 ⟨rfl,hb2⟩
      have G2:=Lib.hid (G1.out.below hb2)
      clear hb2 HHD G1 d0 d1 d2
      obtain ⟨d0,d1,d2⟩:=HBC.out w2 _ _ _ G2.out
      go_upto_if 35 with (fail)
      go_cut [10] (fun nv wx=>nv = .int .i64 (nd:Int) ∧ Hid (ShM w w.heap.size Qs v [stRow st (.slice As st.length qs),tpRow tp (.slice At tp.length qt)] [(B,#[.int .i64 0,.slice A4 n cc4,.slice A5 n5 cc5],162)] wx))
      case first=>
       by_cases hm1:j + 1 < m
       ·obtain ⟨h2,h3,e1,e2,e3,e4⟩:=HJ2.out hm1
        obtain ⟨p1,p2,p3⟩:=HPB.out w2 G2.out.mr.bel
        obtain ⟨b4,off4,eb,hfb4,k0,k1,k2⟩:=rbAt p1 (j + 1) h2
        injection eb with eb
        injection eb with eb1 eb2
        subst eb1
        subst eb2
        obtain ⟨A6,cc6,e6,_,_⟩:=(p2 _ (List.getElem_mem h2)).form
        obtain ⟨A7,cc7,e7,_,_⟩:=(p3 _ (List.getElem_mem h2)).form
        have hkk:=p3 _ (List.getElem_mem h2)
        rw [e6] at k1
        rw [e7] at k2 hkk
        have hgy:=HFF.out.2 _ e4
        rw [← e1] at hgy
        have HH2:=headR_c (l[j + 1]'h2).1 A6 cc6 A7 (l[j + 1]'h2).1.kinds.length cc7 w2 (by have:=hgy.2.2; omega) hkk (fun q hq=>Nat.lt_of_lt_of_le (HF.out q hq) G2.out.mr.size) hgy.1.ks
        have hnn:nd = la + (1 + leastB (l[j + 1]'h2).1):=by
         rw [← HNE.out,← HRR.out,e2,need_scene,need_head HK0.out (e3 (by omega)),HLA.out,e1]
        have hle:=leastB_le (b:=(l[j + 1]'h2).1)
        have hly:=hgy.2.2
        unfold rbA at HH2
        clear e1 e2 e3 e4 e6 e7 hkk hgy p1 p2 p3
        generalize (l[j + 1]'h2).1 = y at *
        generalize y.lines.length = ny at *
        generalize y.kinds.length = ny5 at *
        generalize rkN y.kind = ry at *
        generalize leastB y = ly at *
        have HH2:=Lib.hid HH2
        have HNN:=Lib.hid (show ((la:Int) + (1 + (ly:Int))) = (nd:Int) by omega)
        have hm1':(j:Int) + 1 < (m:Int):=by omega
        go_wp2_with fail
        refine HH2.out.mono ?_
        rintro e w3 ⟨rfl,hb3⟩
        go_wp2
        go_meet
        exact ⟨by rw [HNN.out],Lib.hid (G2.out.below hb3)⟩
       ·have hm1':¬ (j:Int) + 1 < (m:Int):=by omega
        have HNN:=Lib.hid (show la = nd by
         rw [← HNE.out,← HRR.out,HJ3.out hm1,need_scene,need_last HK0.out,HLA.out])
        go_wp2
        go_meet
        exact ⟨by rw [HNN.out],G2⟩
      case rest=>
       clear G2 d0 d1 d2
       obtain ⟨rfl,G3⟩:=hcut
       obtain ⟨d0,d1,d2⟩:=HBC.out wc _ _ _ G3.out
       have HFC:=Lib.hid (HFL.out wc _ G3.out)
       go_wp2_with fail
       refine HFC.out.mono ?_
       rintro e w5 ⟨rfl,Qs5,v5,G5,hQ5⟩
       have HQ5:=Lib.hid hQ5
       obtain ⟨Av,cv,rfl⟩:=G5.form
       have HFT:=Lib.hid (show MR w ((4,tp,.slice At tp.length qt) :: _) _ w5 from G5.frontt)
       have HNX:=Lib.hid G5.ne
       obtain ⟨tb,htb⟩:∃ tb,topB bk (bs.drop (j + 1) ++ Rr) q.2 = tb:=⟨_,rfl⟩
       rw [htb]
       have HTB:=Lib.hid htb
       clear htb
       clear hQ5 HFC G3 d0 d1 d2 G5
       go_upto_region 13 with (at_builtin; (refine wpList_mrPush rfl _ _ _ rfl 4 i1 _ 1 Tryz.underlying112 hi1 hy0 hy1 hy2 rfl _ (.slice At tp.length qt) tp tp.length rfl rfl (HFT.out.alloc (.cells #[.bool tb] 4)) (.bool tb) rfl w5.heap.size _ _ (heap_alloc_new w5 _) rfl (by unfold maxLen; omega) (by omega) ?_); intro g6 cap6 w6 H6)
       have G6:=Lib.hid (ShM.backt (st:=st) (sV:=.slice As st.length qs) H6 HNX.out)
       have k6:=G6.out.box.1
       have HFS:=Lib.hid (show MR w ((3,st.map (fun k:Nat=>Value.int .i64 (k:Int)),.slice As st.length qs) :: _) _ w6 from G6.out.fronts)
       have HSM:=Lib.hid (show (st.map (fun k:Nat=>Value.int .i64 (k:Int))).length = st.length from List.length_map ..)
       clear H6 HFT
       go_upto_region 15 with (at_builtin; (refine wpList_mrPush rfl _ _ _ rfl 3 i0 _ 8 Tryz.underlying22 hi0 hz0 hz1 hz2 rfl _ (.slice As st.length qs) (st.map (fun k:Nat=>Value.int .i64 (k:Int))) st.length HSM.out rfl (HFS.out.alloc (.cells #[.int .i64 (Qs5.length:Int)] 3)) (.int .i64 (Qs5.length:Int)) rfl w6.heap.size _ _ (heap_alloc_new w6 _) rfl (by unfold maxLen; omega) (by omega) ?_); intro g7 cap7 w7 H7)
       have G7:=Lib.hid (ShM.backs (st:=st ++ [Qs5.length]) (by rw [stRow,List.map_append]; exact H7) HNX.out)
       clear H7 HFS k6 G6
       go_wp2
       go_roundw
       case rel=>
        refine ⟨j + 1,(putB bk (bs.drop (j + 1) ++ Rr) q).1,st ++ [Qs5.length],tp ++ [.bool tb],Qs5,_,by omega,intNum,HPI.out.2,HPL.out,?_,?_,Lib.hid (fun e=>absurd e HPI.out.1),Lib.hid (EqL.step HE.out),Lib.hid (.inr ⟨by omega,?_⟩),HQ5,Lib.hid (G7.out.less (by simp))⟩
        ·rw [if_neg (by omega),List.length_append,List.length_singleton,HSLT.out.1]
        ·rw [if_neg (by omega),List.length_append,List.length_singleton,HSLT.out.2]
        ·refine ⟨?_,?_⟩
         ·have h1:=HS0.out.1
          rw [show stR (bs :: Ls.map blocksS) q = stR ((bk :: bs.drop (j + 1)) :: Ls.map blocksS) q from congrArg (fun z=>stR (z :: Ls.map blocksS) q) (HD0.out HJ0.out),stR,HRR.out,runB] at h1
          dsimp only [List.headD_cons] at h1
          have h2:Qs5.length = (putB bk (bs.drop (j + 1) ++ Rr) q).2 + 1:=by
           have h3:=congrArg List.length HQ5.out
           rw [List.length_map,stQ_some HPI.out.1,List.length_append,List.length_singleton,put_head HGB.out.1 HK0.out] at h3
           exact h3
          rw [h2,List.append_assoc]
          exact h1
         ·have h1:=HS0.out.2
          rw [show tpV (bs :: Ls.map blocksS) q = tpV ((bk :: bs.drop (j + 1)) :: Ls.map blocksS) q from congrArg (fun z=>tpV (z :: Ls.map blocksS) q) (HD0.out HJ0.out),tpV_cons,HRR.out,HTB.out] at h1
          rw [List.append_assoc]
          exact h1
       case measure=>simp [intOf]; omega
     ·have hj0:0 < j:=by omega
      have hk0:=hkd.2 hj0
      have e0:=rkN_n0 _ hk0
      have HNE:=Lib.hid (show needB bk (bs.drop (j + 1) ++ Rr) = la by rw [need_zero hk0,HLA.out])
      rw [if_neg j0] at hsl htl
      have HSLT:=Lib.hid (And.intro hsl htl)
      clear hsl htl
      have HS0:=Lib.hid (HS.out.resolve_left (fun h=>j0 h.1)).2
      generalize rkN bk.kind = rk at *
      rw [HNE.out] at HFL
      clear hkd hk0 HS HJ2 HJ3
      go_upto_region 8 with (fail)
      generalize wr.alloc (.cells #[.int .i64 rk,.slice A4 n cc4,.slice A5 n5 cc5] 162) = w1 at *
      generalize wr.heap.size = B at *
      have G1:=Lib.hid hG1
      clear hG1 c0 c1 c2
      have HBC:=Lib.hid (fun (W:World) (Qs:List PgL) (v:Value) (Rs:List Row) (h:ShM w w.heap.size Qs v Rs [(B,#[.int .i64 rk,.slice A4 n cc4,.slice A5 n5 cc5],162)] W)=>show W.cell? ⟨B,0,none⟩ = some (.int .i64 rk) ∧ W.cell? ⟨B,1,none⟩ = some (.slice A4 n cc4) ∧ W.cell? ⟨B,2,none⟩ = some (.slice A5 n5 cc5) from
       have y:=(h.mr.cell (p:=(B,#[.int .i64 rk,.slice A4 n cc4,.slice A5 n5 cc5],162)) (by simp)).1
       ⟨y 0,y 1,y 2⟩)
      obtain ⟨d0,d1,d2⟩:=HBC.out w1 _ _ _ G1.out
      go_wp2_with fail
      refine (HHD.out w1 G1.out.mr.bel).mono ?_
      rintro e w2 ⟨rfl,hb2⟩
      have G2:=Lib.hid (G1.out.below hb2)
      clear hb2 HHD G1 d0 d1 d2
      obtain ⟨d0,d1,d2⟩:=HBC.out w2 _ _ _ G2.out
      have HFC:=Lib.hid (HFL.out w2 _ G2.out)
      go_wp2_with fail
      refine HFC.out.mono ?_
      rintro e w5 ⟨rfl,Qs5,v5,G5,hQ5⟩
      have G6:=Lib.hid (G5.less (Y:=[]) (by simp))
      have HQ5:=Lib.hid hQ5
      clear HFC G5 hQ5 d0 d1 d2 G2
      go_wp2
      go_roundw
      case rel=>
       refine ⟨j + 1,(putB bk (bs.drop (j + 1) ++ Rr) q).1,st,tp,Qs5,v5,by omega,intNum,HPI.out.2,HPL.out,by rw [if_neg (by omega)]; exact HSLT.out.1,by rw [if_neg (by omega)]; exact HSLT.out.2,Lib.hid (fun e=>absurd e HPI.out.1),Lib.hid (EqL.step HE.out),Lib.hid (.inr ⟨by omega,?_⟩),HQ5,G6⟩
       exact HS0.out
      case measure=>simp [intOf]; omega
    ·have hjm2:j = m:=by omega
     subst hjm2
     have hdn:bs.drop j = []:=List.drop_eq_nil_of_le (by rw [HM.out.2]; exact Nat.le_refl _)
     rw [hdn] at HE HS
     rw [if_neg (by omega)] at hsl htl
     have HS0:=Lib.hid (HS.out.resolve_left (fun h=>by have:=h.1; omega)).2
     go_wp2
     go_roundw
     case rel=>
      refine ⟨k + 1,q,st,tp,Qs,v,by omega,intNum,h54,by omega,hsl,htl,HQ0,Lib.hid ?_,Lib.hid ?_,HQ,HG⟩
      ·rw [HLS.out,HRR.out]; exact HE.out
      ·rw [HLS.out]; exact HS0.out
     case measure=>simp [intOf]; omega
  ·have hkN:k = NL:=by omega
   subst hkN
   have hdn:xs.drop k = []:=List.drop_eq_nil_of_le (by rw [HXL.out]; exact Nat.le_refl _)
   rw [hdn] at HE HS
   have hpg:Qs.map (·.1) = pagesB ((xs.map blocksS).flatten):=by
    obtain ⟨h1,h2⟩:=HE.out
    have h1':q.1 = TA:=h1
    have h2':q.2 = TB:=h2
    rw [HQ.out]
    unfold pagesB stQ
    rw [HTT.out.1,HTT.out.2.1,h1',h2']
    by_cases hz:TB = []
    ·rw [if_pos hz,if_pos hz,List.append_nil]
    ·rw [if_neg hz,if_neg hz]
   have hst:st = stR (xs.map blocksS) ([],[]):=by
    have h1:=HS.out.1
    rw [show ([]:List Scene).map blocksS = [] from rfl,stR,List.append_nil] at h1
    rw [h1,HTT.out.2.2]
   have htp:tp = tpV (xs.map blocksS) ([],[]):=by
    have h1:=HS.out.2
    rw [show ([]:List Scene).map blocksS = [] from rfl,show tpV [] q = [] from rfl,List.append_nil] at h1
    rw [h1,HTP.out]
   have cb:=HG.out.box.1
   have HR:=Lib.hid (show LdrT xs w (.returned (.tuple #[v,.slice As st.length qs,.slice At tp.length qt])) wr from ⟨Qs,v,_,_,rfl,hpg,by
    rw [← hst,← htp]
    exact HG.out.mr.less (fun z hz=>by cases hz)⟩)
   obtain ⟨Av,cv,rfl⟩:=HG.out.form
   clear hpg hst htp HE HS
   go_wp2
   go_ret3
   exact HR.out
end
section
open Go.RowKit Go.Sort
def setK (tp:List Bool) (st:List Nat) (nos:List ByteArray) (s:Nat → ByteArray):Nat → Nat → ByteArray
 | 0=>s
 | k + 1=>gStep ((tp[k]?).getD false) ((st[k]?).getD 0 - 1) ((nos[k]?).getD blkS) (setK tp st nos s k)
theorem setK_cons (t:Bool) (p:Nat) (no:ByteArray) (tp:List Bool) (st:List Nat) (nos:List ByteArray) (s:Nat → ByteArray):∀ k,setK (t :: tp) (p :: st) (no :: nos) s (k + 1) = setK tp st nos (gStep t (p - 1) no s) k
 | 0=>rfl
 | k + 1=>by
  rw [setK,setK_cons t p no tp st nos s k,setK]
  simp only [List.getElem?_cons_succ]
theorem firR_set:∀ (L:List (List Blk)) (nos:List ByteArray) (q:PgQ) (s:Nat → ByteArray),(∀ l ∈ L,l ≠ []) → L.length = nos.length → firR L nos q s = setK (tpR L q) (stR L q) nos s L.length
 | [],[],_,_,_,_=>rfl
 | [],_ :: _,_,_,_,h=>by cases h
 | _ :: _,[],_,_,_,h=>by cases h
 | l :: L,no :: nos,q,s,hl,h=>by
  cases l with
  | nil=>exact absurd rfl (hl [] (List.mem_cons_self ..))
  | cons b t=>
   have ih:=firR_set L nos (runB (b :: t) L.flatten q).1 (gStep (topB b (t ++ L.flatten) q.2) (putB b (t ++ L.flatten) q).2 no s) (fun l hl2=>hl l (List.mem_cons_of_mem _ hl2)) (by simpa using h)
   show firR L nos (runB (b :: t) L.flatten q).1 (gStep (topB b (t ++ L.flatten) q.2) (putB b (t ++ L.flatten) q).2 no s) = setK (topB b (t ++ L.flatten) q.2 :: tpR L (runB (b :: t) L.flatten q).1) (((putB b (t ++ L.flatten) q).2 + 1) :: stR L (runB (b :: t) L.flatten q).1) (no :: nos) s (L.length + 1)
   rw [setK_cons,ih,Nat.add_sub_cancel]
theorem tpR_len:∀ (L:List (List Blk)) (q:PgQ),(tpR L q).length = L.length
 | [],_=>rfl
 | l :: L,q=>by
  show (tpR L (runB l L.flatten q).1).length + 1 = L.length + 1
  rw [tpR_len L]
theorem stR_len:∀ (L:List (List Blk)) (q:PgQ),(stR L q).length = L.length
 | [],_=>rfl
 | _ :: L,q=>by rw [stR,List.length_cons,List.length_cons,stR_len L]
end
section
open Go.RowKit Go.Sort
theorem finQ_run:∀ (l r:List Blk) (q:PgQ),finQ (l ++ r) q = finQ r (runB l r q).1
 | [],_,_=>rfl
 | b :: l,r,q=>finQ_run l r (putB b (l ++ r) q).1
theorem pos_mono:∀ (l:List Blk) (q:PgQ),(∀ b ∈ l,GoodB b) → q.2.length ≤ 54 → posQ q ≤ posQ (finQ l q)
 | [],_,_,_=>Nat.le_refl _
 | b :: l,q,hg,h=>by
  obtain ⟨_,h2,h3⟩:=put_pos (hg b (List.mem_cons_self ..)) l q h
  exact Nat.le_trans h2 (pos_mono l (putB b l q).1 (fun y hy=>hg y (List.mem_cons_of_mem _ hy)) h3)
theorem run_54:∀ (l r:List Blk) (q:PgQ),(∀ b ∈ l,GoodB b) → q.2.length ≤ 54 → (runB l r q).1.2.length ≤ 54
 | [],_,_,_,h=>h
 | b :: l,r,q,hg,h=>run_54 l r (putB b (l ++ r) q).1 (fun y hy=>hg y (List.mem_cons_of_mem _ hy)) (put_pos (hg b (List.mem_cons_self ..)) (l ++ r) q h).2.2
theorem st_lt:∀ (L:List (List Blk)) (q:PgQ),(∀ l ∈ L,l ≠ [] ∧ ∀ b ∈ l,GoodB b) → q.2.length ≤ 54 → ∀ s ∈ stR L q,1 ≤ s ∧ s ≤ posQ (finQ L.flatten q)
 | [],_,_,_,s,hs=>by cases hs
 | l :: L,q,hL,h54,s,hs=>by
  obtain ⟨hne,hg⟩:=hL l (List.mem_cons_self ..)
  cases l with
  | nil=>exact absurd rfl hne
  | cons b t=>
   rw [List.flatten_cons,finQ_run]
   have hs2:s = (putB b (t ++ L.flatten) q).2 + 1 ∨ s ∈ stR L (runB (b :: t) L.flatten q).1:=by
    have:s ∈ ((putB b (t ++ L.flatten) q).2 + 1) :: stR L (runB (b :: t) L.flatten q).1:=hs
    exact List.mem_cons.1 this
   have h54r:=run_54 (b :: t) L.flatten q hg h54
   rcases hs2 with rfl | hs2
   ·obtain ⟨h1,_,h3⟩:=put_pos (hg b (List.mem_cons_self ..)) (t ++ L.flatten) q h54
    have h4:=pos_mono t (putB b (t ++ L.flatten) q).1
    refine ⟨by omega,?_⟩
    have hall:∀ y ∈ t ++ L.flatten,GoodB y:=fun y hy=>by
     rcases List.mem_append.1 hy with hy | hy
     ·exact hg y (List.mem_cons_of_mem _ hy)
     ·obtain ⟨l2,hl2,hy⟩:=List.mem_flatten.1 hy
      exact (hL l2 (List.mem_cons_of_mem _ hl2)).2 y hy
    have h5:=pos_mono (t ++ L.flatten) (putB b (t ++ L.flatten) q).1 hall h3
    rw [finQ_run] at h5
    exact Nat.le_trans h1 h5
   ·exact st_lt L _ (fun l2 hl2=>hL l2 (List.mem_cons_of_mem _ hl2)) h54r s hs2
theorem pagesB_pos (l:List Blk):(pagesB l).length = posQ (finQ l ([],[])):=by
 obtain ⟨e1,e2⟩:=layB_fin l ([],[]) []
 dsimp only at e1 e2
 unfold pagesB posQ
 rw [e1,e2]
 by_cases h:(finQ l ([],[])).2 = []
 ·rw [if_pos h,if_pos h,List.append_nil]
 ·rw [if_neg h,if_neg h,List.length_append]; rfl
end
section
open Go.RowKit Go.Sort
abbrev LeT:=ByteArray × Value
def leC (y:LeT):List Value:=[.string y.1,y.2]
def leR:Rep LeT:=Rep.flat 2 leC (fun _=>rfl)
theorem made2 (a b:Value) (n k:Nat) (hk:k < n):(((madeCells #[a,b] (n * 2)).toList).drop (k * 2)).take 2 = [a,b]:=by
 have hs:(madeCells #[a,b] (n * 2)).size = n * 2:=size_madeCells ..
 have hat:∀ i,i < n * 2 → (madeCells #[a,b] (n * 2))[i]? = some (if i % 2 = 0 then a else b):=fun i hi=>by
  rw [Array.getElem?_eq_getElem (by rw [hs]; exact hi)]
  congr 1
  simp only [madeCells,Array.getElem_ofFn]
  rcases Nat.mod_two_eq_zero_or_one i with h | h
  ·simp [h]
  ·simp [h]
 apply List.ext_getElem?
 intro i
 rw [List.getElem?_take,List.getElem?_drop,Array.getElem?_toList]
 match i with
 | 0=>rw [if_pos (by decide),hat _ (by omega),if_pos (by omega)]; rfl
 | 1=>rw [if_pos (by decide),hat _ (by omega),if_neg (by omega)]; rfl
 | i + 2=>rw [if_neg (by omega)]; rfl
theorem own_made {w:World} {base lo g n:Nat} {e:TypeId} (h:w.ownsRow base e 2 (.slice (some ⟨g,0,none⟩) n n) n (madeCells #[.string blkS,.slice none 0 0] (n * 2)).toList):Own leR w base lo e (List.replicate n (blkS,Value.slice none 0 0)) (.slice (some ⟨g,0,none⟩) n n):=by
 refine ⟨_,by rw [List.length_replicate]; exact h,?_,fun k x hx=>?_⟩
 ·rw [List.length_replicate,Array.length_toList,size_madeCells]
  rfl
 ·have hk:k < n:=by
   have:=(List.getElem?_eq_some_iff.1 hx).1
   rwa [List.length_replicate] at this
  rw [List.getElem?_replicate,if_pos hk] at hx
  cases hx
  show (((madeCells #[.string blkS,.slice none 0 0] (n * 2)).toList).drop (k * 2)).take 2 = [.string blkS,.slice none 0 0]
  exact made2 _ _ n k hk
end
section
open Go.RowKit Go.Sort
def lfK (xs:List Scene) (Qs:List PgL) (k:Nat):List LeT:=(List.range Qs.length).map fun j=>(setK (tpR (xs.map blocksS) ([],[])) (stR (xs.map blocksS) ([],[])) (xs.map (·.no)) (fun _=>blkS) k j,((Qs[j]?).map (·.2)).getD (.slice none 0 0))
def lf0 (Qs:List PgL) (N j:Nat):List LeT:=(List.range N).map fun i=>(blkS,if i < j then ((Qs[i]?).map (·.2)).getD (.slice none 0 0) else .slice none 0 0)
theorem lf0_zero (Qs:List PgL) (N:Nat):lf0 Qs N 0 = List.replicate N (blkS,Value.slice none 0 0):=by
 unfold lf0
 apply List.eq_replicate_iff.2
 refine ⟨by simp,fun b hb=>?_⟩
 obtain ⟨i,_,rfl⟩:=List.mem_map.1 hb
 rw [if_neg (by omega)]
theorem lf0_step {Qs:List PgL} {N j:Nat} (hj:j < Qs.length) (hjN:j < N):(lf0 Qs N j).modify j (fun y:LeT=>(y.1,(Qs.map (·.2))[j]'(by rw [List.length_map]; exact hj))) = lf0 Qs N (j + 1):=by
 apply List.ext_getElem?
 intro i
 rw [List.getElem?_modify]
 unfold lf0
 rw [List.getElem?_map,List.getElem?_map]
 by_cases hi:i < N
 ·rw [List.getElem?_range hi]
  by_cases h1:j = i
  ·subst h1
   simp [List.getElem?_eq_getElem hj]
  ·by_cases h2:i < j
   ·simp [h1,h2,show i < j + 1 by omega]
   ·simp [h1,h2,show ¬ i < j + 1 by omega]
 ·rw [List.getElem?_eq_none (by simp; omega)]
  rfl
theorem lf0_all (xs:List Scene) (Qs:List PgL):lf0 Qs Qs.length Qs.length = lfK xs Qs 0:=by
 unfold lf0 lfK
 apply List.map_congr_left
 intro i hi
 rw [if_pos (List.mem_range.1 hi)]
 rfl
theorem lfK_len (xs:List Scene) (Qs:List PgL) (k:Nat):(lfK xs Qs k).length = Qs.length:=by unfold lfK; rw [List.length_map,List.length_range]
theorem lfK_no {xs:List Scene} {Qs:List PgL} {k:Nat} (h:(tpR (xs.map blocksS) ([],[]))[k]? = some false):lfK xs Qs (k + 1) = lfK xs Qs k:=by
 unfold lfK
 rw [setK,h]
 rfl
theorem lfK_yes {xs:List Scene} {Qs:List PgL} {k s:Nat} {no:ByteArray} (h:(tpR (xs.map blocksS) ([],[]))[k]? = some true) (hs:(stR (xs.map blocksS) ([],[]))[k]? = some s) (hn:(xs.map (·.no))[k]? = some no) :
  (lfK xs Qs k).modify (s - 1) (fun y:LeT=>(no,y.2)) = lfK xs Qs (k + 1):=by
 apply List.ext_getElem?
 intro i
 rw [List.getElem?_modify]
 unfold lfK
 rw [List.getElem?_map,List.getElem?_map,setK,h,hs,hn]
 by_cases hi:i < Qs.length
 ·rw [List.getElem?_range hi]
  by_cases h1:s - 1 = i
  ·subst h1
   simp [gStep_at]
  ·simp [h1,gStep_ne (fun e=>h1 e.symm)]
 ·rw [List.getElem?_eq_none (by simp; omega)]
  rfl
def PgoP (xs:List Scene) (w:World) (e:Ending) (w':World):Prop:=∃ (Qs:List PgL) (v:Value),e = .returned v ∧ Below w.heap.size w w' ∧ Qs.map (·.1) = pagesB ((xs.map blocksS).flatten) ∧ Own leR w' w.heap.size w.heap.size 65 (lfK xs Qs xs.length) v ∧ ∀ y ∈ Qs,Sli strR w' (fun q=>w.heap.size ≤ q ∧ q < w'.heap.size) y.1 y.2
set_option maxRecDepth 100000 in
set_option maxHeartbeats 16000000 in
theorem pagesOf_c {F:Nat → Prop} (M:List EnT) (v:Value) (w:World) (xs:List Scene) (h:ES w F M v) (hF:∀ q,F q → q < w.heap.size) (hno:M.map (·.1) = xs.map (·.no)) (hbl:M.map (fun y=>y.2.1.map (·.1)) = xs.map blocksS) (hl:xs.length ≤ 91) (hok:∀ x ∈ xs,LnOk x) (hpn:∀ x ∈ xs,x.paras.length ≤ 61) :
  Calls Tryz.prog 24 #[v] w (PgoP xs w):=by
 obtain ⟨i1,hi1,hy0,hy1,hy2⟩:=info_parts (show (Tryz.prog.info? 109).map (fun i=>(i.zero,i.size,i.bytes)) = some (some (.slice none 0 0),1,24) by kernel_rfl)
 obtain ⟨i2,hi2,hx0,hx1,hx2⟩:=info_parts (show (Tryz.prog.info? 65).map (fun i=>(i.zero,i.size,i.bytes)) = some (some (.agg #[.string ⟨#[]⟩,.slice none 0 0]),2,40) by kernel_rfl)
 obtain ⟨A,c,rfl,hlc,hcm⟩:=h.sli.form
 obtain ⟨n,hn⟩:∃ n,M.length = n:=⟨_,rfl⟩
 have HN:=Lib.hid hn
 have hxn:xs.length = n:=by have:=congrArg List.length hno; rw [List.length_map,List.length_map] at this; omega
 have HXN:=Lib.hid hxn
 have HES:=Lib.hid (fun (W:World) (hb:Below w.heap.size w W)=>h.below hb hF)
 have HF:=Lib.hid hF
 have HNO:=Lib.hid hno
 have HBL:=Lib.hid hbl
 have HOK:=Lib.hid (And.intro hok hpn)
 have hn91:n ≤ 91:=by omega
 rw [hn] at HES hlc ⊢
 clear h hF hno hbl hok hpn hn hxn
 have E0:=Lib.hid (show BO valR 109 w [] (.slice none 0 0) [] w from BO.start w)
 go_enter Tryz.func24,Tryz.ntmps24
 go_upto_region 3 with (fail)
 go_loopw [3,16] (fun s3 s16 wr=>∃ k:Nat,k ≤ n ∧ s16 = .int .i64 k ∧ Hid (BO valR 109 w ((M.take k).map (·.2.2)) s3 [] wr)) (fun _ s16 _=>n - (intOf s16).toNat)
 case atStart=>exact ⟨0,Nat.zero_le _,rfl,E0⟩
 case round=>
  clear E0
  obtain ⟨k,hk,rfl,HG⟩:=hrel
  by_cases hlt:k < n
  ·have hkm:k < M.length:=by rw [HN.out]; exact hlt
   obtain ⟨b,off,eA,hfb,c0,c1⟩:=enAt (HES.out wr HG.out.bel).sli k hkm
   obtain ⟨B,cb,e1,_,_⟩:=((HES.out wr HG.out.bel).blk _ (List.getElem_mem hkm)).form
   have HTK:=Lib.hid (show (M.take (k + 1)).map (·.2.2) = (M.take k).map (·.2.2) ++ [(M[k]'hkm).2.2] by rw [List.take_succ_eq_append_getElem hkm,List.map_append]; rfl)
   rw [e1] at c1 HTK
   subst eA
   generalize (M[k]'hkm).1 = no at *
   generalize (M[k]'hkm).2.1.length = nb at *
   have hkl:((M.take k).map (·.2.2)).length = k:=by rw [List.length_map,List.length_take]; omega
   obtain ⟨R,hR⟩:∃ R,(M.take k).map (·.2.2) = R:=⟨_,rfl⟩
   rw [hR] at HTK HG hkl
   have HKL:=Lib.hid hkl
   have HG2:=Lib.hid (HG.out.new #[.string no,.slice B nb cb] 111)
   clear hkm e1 hkl HG hR
   go_upto_region 5 with (fail)
   generalize wr.alloc (.cells #[.string no,.slice B nb cb] 111) = wE at *
   generalize wr.heap.size = X at *
   have e1:wE.cell? ⟨X,1,none⟩ = some (.slice B nb cb):=(HG2.out.cell (p:=(X,#[.string no,.slice B nb cb],111)) (by simp)).1 1
   have hkl:=HKL.out
   go_wp2_with (at_builtin; (refine wpList_pushB (R:=valR) rfl _ _ _ rfl w.heap.size w.heap.size 109 i1 _ 24 Tryz.underlying108 hi1 hy0 hy1 hy2 rfl (by decide) _ u3 R rfl (HG2.out.own.alloc _) (.slice B nb cb) _ rfl (oneC rfl) wE.heap.size _ _ (heap_alloc_new wE _) rfl (by rw [hkl]; unfold maxLen; omega) (by rw [hkl]; omega) (by have:=HG2.out.size; simp; omega) ?_); intro g7 cap7 w7 hown7 hg7 hat7 hlt7)
   have G7:=Lib.hid (((HG2.out.alloc (.cells #[.slice B nb cb] 109)).more hown7 hg7 rfl hat7).less (Q:=[]) (fun p hp=>by cases hp))
   rw [← HTK.out,hkl] at G7
   clear hown7 hg7 hat7 hlt7 HG2
   go_roundw
   case rel=>exact ⟨k + 1,by omega,intNum,G7⟩
   case measure=>simp [intOf]; omega
  ·have hkn:k = n:=by omega
   subst hkn
   obtain ⟨xs2,hxs2⟩:∃ L2:List ScB,M.map (·.2) = L2:=⟨_,rfl⟩
   have hL2k:xs2.length = k:=by rw [← hxs2,List.length_map]; exact HN.out
   have hLv:(M.take k).map (·.2.2) = xs2.map (·.2):=by rw [List.take_of_length_le (by rw [HN.out]; exact Nat.le_refl _),← hxs2,List.map_map]; rfl
   obtain ⟨A3,q3,e3⟩:=own_sl HG.out.own
   rw [hLv,List.length_map,hL2k] at e3
   subst e3
   have hes:=HES.out wr HG.out.bel
   have hlift:∀ q,F q → q < wr.heap.size:=fun q hq=>Nat.lt_of_lt_of_le (HF.out q hq) HG.out.bel.size
   have hown:=HG.out.own
   rw [hLv] at hown
   have hRB:RbS wr (fun q=>q < wr.heap.size) xs2 (.slice A3 xs2.length q3):=by
    rw [hL2k]
    refine ⟨Own.sliF (enc:=fun v:Value=>[v]) (hn:=fun _=>rfl) hown (fun g hg=>(hown.block g hg).2),fun y hy=>?_,fun y hy x hx=>?_,fun y hy x hx=>?_⟩
    ·obtain ⟨z,hz,rfl⟩:=List.mem_map.1 (hxs2 ▸ hy)
     exact (hes.blk z hz).more hlift
    ·obtain ⟨z,hz,rfl⟩:=List.mem_map.1 (hxs2 ▸ hy)
     exact (hes.ln z hz x hx).more hlift
    ·obtain ⟨z,hz,rfl⟩:=List.mem_map.1 (hxs2 ▸ hy)
     exact (hes.kd z hz x hx).more hlift
   have hx2:xs2.map (fun y=>y.1.map (·.1)) = xs.map blocksS:=by rw [← hxs2,List.map_map]; exact HBL.out
   have HLD:=laidT_c xs2 A3 q3 wr hRB (fun q hq=>hq) xs hx2 (by omega) HOK.out.1 HOK.out.2
   rw [hL2k] at HLD
   unfold LdrT at HLD
   have HLD:=Lib.hid HLD
   have HB2:=Lib.hid HG.out.bel
   have HPF:=Lib.hid (pages_few HOK.out.1 HOK.out.2 hl).1
   clear hRB hx2 hes hlift hown hLv hL2k hxs2 HG
   go_wp2_with fail
   refine HLD.out.mono ?_
   rintro e w3 ⟨Qs,v3,sV,tV,rfl,hQs,hMR⟩
   obtain ⟨A1,c1,e1⟩:=own_sl (hMR.own _ (List.mem_cons_self ..))
   dsimp only at e1
   rw [List.length_map] at e1
   subst e1
   have hpf:=HPF.out
   rw [← hQs,List.length_map] at hpf
   have HQS:=Lib.hid hQs
   have HB3:=Lib.hid (HB2.out.trans (hMR.bel.mono HB2.out.size))
   have hz23:=hMR.size
   have HP1:=Lib.hid (show Sli valR w3 (fun q=>wr.heap.size ≤ q ∧ q < w3.heap.size) (Qs.map (·.2)) (.slice A1 Qs.length c1) from by
    have ho:=hMR.own (31,Qs.map (·.2),.slice A1 Qs.length c1) (List.mem_cons_self ..)
    have hs:=ho.sliF (enc:=fun v:Value=>[v]) (hn:=fun _=>rfl) (F:=fun q=>wr.heap.size ≤ q ∧ q < w3.heap.size) (fun g hg=>ho.block g hg)
    exact hs)
   have HP2:=Lib.hid (show ∀ q ∈ Qs,Sli strR w3 (fun q=>wr.heap.size ≤ q ∧ q < w3.heap.size) q.1 q.2 from fun q hq=>by
    have hr:=hMR.own (rowP q) (List.mem_cons_of_mem _ (List.mem_append_left _ (List.mem_map_of_mem hq)))
    have hs:=Own.strs hr
    exact hs.sliF (enc:=fun x:ByteArray=>[.string x]) (hn:=fun _=>rfl) (fun g hg=>hs.block g hg))
   have HSS:=Lib.hid (show Sli valR w3 (fun q=>wr.heap.size ≤ q ∧ q < w3.heap.size) ((stR (xs.map blocksS) ([],[])).map (fun k:Nat=>Value.int .i64 (k:Int))) sV from by
    have hr:=hMR.own (stRow (stR (xs.map blocksS) ([],[])) sV) (List.mem_cons_of_mem _ (List.mem_append_right _ (by simp)))
    have hr2:Own valR w3 wr.heap.size wr.heap.size 3 ((stR (xs.map blocksS) ([],[])).map (fun k:Nat=>Value.int .i64 (k:Int))) sV:=hr
    exact hr2.sliF (enc:=fun v:Value=>[v]) (hn:=fun _=>rfl) (fun g hg=>hr2.block g hg))
   have HST:=Lib.hid (show Sli valR w3 (fun q=>wr.heap.size ≤ q ∧ q < w3.heap.size) (tpV (xs.map blocksS) ([],[])) tV from by
    have hr:=hMR.own (tpRow (tpV (xs.map blocksS) ([],[])) tV) (List.mem_cons_of_mem _ (List.mem_append_right _ (by simp)))
    have hr2:Own valR w3 wr.heap.size wr.heap.size 4 (tpV (xs.map blocksS) ([],[])) tV:=hr
    exact hr2.sliF (enc:=fun v:Value=>[v]) (hn:=fun _=>rfl) (fun g hg=>hr2.block g hg))
   obtain ⟨N,hN2⟩:∃ N,Qs.length = N:=⟨_,rfl⟩
   have HNQ:=Lib.hid hN2
   rw [hN2] at HP1 hpf ⊢
   obtain ⟨w4,hr4,ho4,hg4⟩:=run_make_full (P:=Tryz.prog) w3 w.heap.size 60 65 i2 (.agg #[.string ⟨#[]⟩,.slice none 0 0]) 2 Tryz.underlying60 hi2 hx0 hx1 .i64 .i64 N (by rw [hx2]; omega) (by unfold maxLen; omega) HB3.out.size
   have HO4:=Lib.hid (own_made (lo:=w.heap.size) ho4)
   have HG4:=Lib.hid hg4
   clear hMR HLD ho4 hg4 hQs hN2
   obtain ⟨g,hg⟩:∃ g,w3.heap.size = g:=⟨_,rfl⟩
   have HGE:=Lib.hid hg
   have hr4g:(Instr.makeSlice 60 (.int .i64 (N:Int)) (.int .i64 (N:Int))).run Tryz.prog w3 = .ok (.slice (some ⟨g,0,none⟩) N N) w4:=by rw [← hg]; exact hr4
   have E4:=Lib.hid (show BO leR 65 w (lf0 Qs N 0) (.slice (some ⟨g,0,none⟩) N N) [] w4 from
    ⟨HB3.out.grown HG4.out HB3.out.size (fun q hq=>by cases hq),by rw [lf0_zero,← hg]; exact HO4.out,fun p hp=>by cases hp⟩)
   have B4:=Lib.hid (show Below w3.heap.size w3 w4 from (Below.refl _ w3).grown HG4.out (Nat.le_refl _) (fun q hq=>by cases hq))
   clear hr4 hg HO4 HG4
   go_upto_region 10 with (fail)
   go_loopw [37] (fun s37 wr=>∃ j:Nat,j ≤ N ∧ s37 = .int .i64 j ∧ Hid (BO leR 65 w (lf0 Qs N j) (.slice (some ⟨g,0,none⟩) N N) [] wr) ∧ Hid (Below w3.heap.size w3 wr)) (fun s37 _=>N - (intOf s37).toNat)
   case atStart=>exact ⟨0,Nat.zero_le _,rfl,E4,B4⟩
   case round=>
    clear E4 B4
    obtain ⟨j,hj,rfl,HG5,HB5⟩:=hrel
    by_cases hjl:j < N
    ·have hjq:j < (Qs.map (·.2)).length:=by rw [List.length_map,HNQ.out]; exact hjl
     obtain ⟨b,off,eA,hfb,d0⟩:=valAt (HP1.out.below HB5.out (fun q hq=>hq.2)) j hjq
     subst eA
     have hlen:(lf0 Qs N j).length = N:=by unfold lf0; rw [List.length_map,List.length_range]
     have hca:=Own.cellAt (enc:=leC) (hn:=fun _=>rfl) HG5.out.own j (by rw [hlen]; exact hjl) 1 (by decide)
     have HM:=Lib.hid (show BO leR 65 w (lf0 Qs N (j + 1)) (.slice (some ⟨g,0,none⟩) N N) [] (wr.setCell ⟨g,j * 2 + 1,none⟩ ((Qs.map (·.2))[j])) from by
      have h:=HG5.out.modify (fun y:LeT=>(y.1,(Qs.map (·.2))[j])) j 1 ((Qs.map (·.2))[j]) (fun _=>rfl) (by decide) (by rw [hlen]; exact hjl)
      rw [lf0_step (by rw [HNQ.out]; exact hjl) hjl] at h
      exact h)
     have HB6:=Lib.hid (show Below w3.heap.size w3 (wr.setCell ⟨g,j * 2 + 1,none⟩ ((Qs.map (·.2))[j])) from belSet HB5.out (by show w3.heap.size ≤ g; rw [HGE.out]; exact Nat.le_refl _) _)
     obtain ⟨h1',h2⟩:=hca
     have h1:wr.cell? ⟨g,j * 2 + 1,none⟩ = some ((lf0 Qs N j)[j]'(by rw [hlen]; exact hjl)).2:=h1'
     clear h1'
     generalize ((lf0 Qs N j)[j]'(by rw [hlen]; exact hjl)).2 = u0 at *
     have hqj:j < Qs.length:=by rw [HNQ.out]; exact hjl
     obtain ⟨Au,cu,eu,_,_⟩:=(HP2.out _ (List.getElem_mem hqj)).form
     have hu:(Qs.map (·.2))[j] = .slice Au Qs[j].1.length cu:=by rw [List.getElem_map]; exact eu
     rw [hu] at d0 HM HB6
     generalize Qs[j].1.length = nu at *
     clear hjq hlen hfb hu eu hqj
     go_wp2
     go_roundw
     case rel=>exact ⟨j + 1,by omega,intNum,HM,HB6⟩
     case measure=>simp [intOf]; omega
    ·have hjN:j = N:=by omega
     subst hjN
     have hE:lf0 Qs j j = lfK xs Qs 0:=by
      have:=lf0_all xs Qs
      rwa [HNQ.out] at this
     rw [hE] at HG5
     have hxk:=HXN.out
     obtain ⟨As,cs,es,_,_⟩:=HSS.out.form
     rw [List.length_map,stR_len,List.length_map,hxk] at es
     subst es
     obtain ⟨At,ct,et,_,_⟩:=HST.out.form
     rw [show (tpV (xs.map blocksS) ([],[])).length = k by unfold tpV; rw [List.length_map,tpR_len,List.length_map,hxk]] at et
     subst et
     have HSB:=Lib.hid (fun (q s:Nat) (hq:(stR (xs.map blocksS) ([],[]))[q]? = some s)=>show 1 ≤ s ∧ s ≤ j from by
      have h:=st_lt (xs.map blocksS) ([],[]) (fun l hl=>by
       obtain ⟨x,hx,rfl⟩:=List.mem_map.1 hl
       refine ⟨?_,blocks_good (HOK.out.1 x hx)⟩
       obtain ⟨a,t,e,_⟩:=blocks_shape x
       rw [e]
       exact List.cons_ne_nil _ _) (by decide) s (List.mem_of_getElem? hq)
      have hp:=pagesB_pos ((xs.map blocksS).flatten)
      rw [← HQS.out,List.length_map,HNQ.out] at hp
      rw [hp]
      exact h)
     have G0:=Lib.hid HG5.out
     clear hE HG5 hxk
     go_upto_region 15 with (fail)
     go_loopw [50] (fun s50 wr=>∃ q:Nat,q ≤ k ∧ s50 = .int .i64 q ∧ Hid (BO leR 65 w (lfK xs Qs q) (.slice (some ⟨g,0,none⟩) j j) [] wr) ∧ Hid (Below w3.heap.size w3 wr)) (fun s50 _=>k - (intOf s50).toNat)
     case atStart=>exact ⟨0,Nat.zero_le _,rfl,G0,HB5⟩
     case round=>
      clear G0 HB5
      obtain ⟨q,hq,rfl,HG6,HB6⟩:=hrel
      by_cases hql:q < k
      ·have hqM:q < M.length:=by rw [HN.out]; exact hql
       have hbw:=HG6.out.bel
       obtain ⟨b,off,eA,hfb,c0,c1⟩:=enAt (HES.out wr hbw).sli q hqM
       obtain ⟨B,cb,e1,_,_⟩:=((HES.out wr hbw).blk _ (List.getElem_mem hqM)).form
       have hnk:(xs.map (·.no))[q]? = some (M[q]'hqM).1:=by rw [← HNO.out,List.getElem?_map,List.getElem?_eq_getElem hqM]; rfl
       rw [e1] at c1
       subst eA
       generalize (M[q]'hqM).1 = no at *
       generalize (M[q]'hqM).2.1.length = nb at *
       have hqt:q < (tpR (xs.map blocksS) ([],[])).length:=by rw [tpR_len,List.length_map,HXN.out]; exact hql
       have hqs:q < (stR (xs.map blocksS) ([],[])).length:=by rw [stR_len,List.length_map,HXN.out]; exact hql
       obtain ⟨tb,htb⟩:∃ tb,(tpR (xs.map blocksS) ([],[]))[q]? = some tb:=⟨_,List.getElem?_eq_getElem hqt⟩
       obtain ⟨st,hst⟩:∃ st,(stR (xs.map blocksS) ([],[]))[q]? = some st:=⟨_,List.getElem?_eq_getElem hqs⟩
       have HTS:=Lib.hid (fun (W:World) (hW:Below w3.heap.size w3 W)=>show (∃ bt ot,At = some ⟨bt,ot,none⟩ ∧ W.cell? ⟨bt,ot + q,none⟩ = some (.bool tb)) ∧ (∃ bs os,As = some ⟨bs,os,none⟩ ∧ W.cell? ⟨bs,os + q,none⟩ = some (.int .i64 (st:Int))) from by
        obtain ⟨bt,ot,e1,_,d1⟩:=valAt (HST.out.below hW (fun q hq=>hq.2)) q (by unfold tpV; rw [List.length_map]; exact hqt)
        obtain ⟨bs,os,e2,_,d2⟩:=valAt (HSS.out.below hW (fun q hq=>hq.2)) q (by rw [List.length_map]; exact hqs)
        refine ⟨⟨bt,ot,e1,d1.trans ?_⟩,⟨bs,os,e2,d2.trans ?_⟩⟩
        ·have h:=congrArg (fun o=>o.map Value.bool) htb
         dsimp only [Option.map_some] at h
         rw [← List.getElem?_map] at h
         have h2:(tpV (xs.map blocksS) ([],[]))[q]? = some (.bool tb):=h
         rw [← h2,List.getElem?_eq_getElem]
        ·have h:=congrArg (fun o=>o.map (fun k:Nat=>Value.int .i64 (k:Int))) hst
         dsimp only [Option.map_some] at h
         rw [← List.getElem?_map] at h
         rw [← h,List.getElem?_eq_getElem])
       obtain ⟨⟨bt,ot,eT,_⟩,⟨bs,os,eS,_⟩⟩:=HTS.out wr HB6.out
       subst eT
       subst eS
       have HTS2:=Lib.hid (fun (W:World) (hW:Below w3.heap.size w3 W)=>show W.cell? ⟨bt,ot + q,none⟩ = some (.bool tb) ∧ W.cell? ⟨bs,os + q,none⟩ = some (.int .i64 (st:Int)) from by
        obtain ⟨⟨_,_,e1,d1⟩,⟨_,_,e2,d2⟩⟩:=HTS.out W hW
        cases e1
        cases e2
        exact ⟨d1,d2⟩)
       have HG7:=Lib.hid (HG6.out.new #[.string no,.slice B nb cb] 111)
       have HB7:=Lib.hid (HB6.out.alloc HB6.out.size (.cells #[.string no,.slice B nb cb] 111))
       obtain ⟨hs1,hs2⟩:=HSB.out q st hst
       have HNK:=Lib.hid hnk
       have HTB:=Lib.hid htb
       have HSTT:=Lib.hid hst
       clear hnk htb hst hqt hqs hqM hbw e1 HG6 HB6 HTS
       go_upto_region 17 with (fail)
       generalize wr.alloc (.cells #[.string no,.slice B nb cb] 111) = wE at *
       generalize wr.heap.size = X at *
       obtain ⟨t0,t1⟩:=HTS2.out wE HB7.out
       have e0:wE.cell? ⟨X,0,none⟩ = some (.string no):=(HG7.out.cell (p:=(X,#[.string no,.slice B nb cb],111)) (by simp)).1 0
       cases tb with
       | false=>
        have HR:=Lib.hid (show BO leR 65 w (lfK xs Qs (q + 1)) (.slice (some ⟨g,0,none⟩) j j) [] wE by rw [lfK_no HTB.out]; exact HG7.out.less (Q:=[]) (fun p hp=>by cases hp))
        go_wp2
        go_roundw
        case rel=>exact ⟨q + 1,by omega,intNum,HR,HB7⟩
        case measure=>simp [intOf]; omega
       | true=>
        have hlen:(lfK xs Qs q).length = j:=by rw [lfK_len]; exact HNQ.out
        have hca:=Own.cellAt (enc:=leC) (hn:=fun _=>rfl) HG7.out.own (st - 1) (by rw [hlen]; omega) 0 (by decide)
        obtain ⟨h1',h2⟩:=hca
        have h1:wE.cell? ⟨g,(st - 1) * 2 + 0,none⟩ = some (.string ((lfK xs Qs q)[st - 1]'(by rw [hlen]; omega)).1):=h1'
        clear h1'
        rw [Nat.add_zero] at h1 h2
        have HM:=Lib.hid (show BO leR 65 w (lfK xs Qs (q + 1)) (.slice (some ⟨g,0,none⟩) j j) [] (wE.drew.setCell ⟨g,(st - 1) * 2,none⟩ (.string no)) from by
         have h:=HG7.out.drew.modify (fun y:LeT=>(no,y.2)) (st - 1) 0 (.string no) (fun _=>rfl) (by decide) (by rw [hlen]; omega)
         rw [lfK_yes HTB.out HSTT.out HNK.out] at h
         exact h.less (Q:=[]) (fun p hp=>by cases hp))
        have HB8:=Lib.hid (show Below w3.heap.size w3 (wE.drew.setCell ⟨g,(st - 1) * 2,none⟩ (.string no)) from belSet HB7.out.drew (by show w3.heap.size ≤ g; rw [HGE.out]; exact Nat.le_refl _) _)
        generalize ((lfK xs Qs q)[st - 1]'(by rw [hlen]; omega)).1 = no0 at *
        have hw1:IntKind.i64.wrap ((st:Int) - 1) = (st:Int) - 1:=by rw [IntKind.wrap_i64]; omega
        have hw2:(0:Int) ≤ (st:Int) - 1:=by omega
        have hw3:((st:Int) - 1).toNat = st - 1:=by omega
        have hw4:(st:Int) - 1 < (j:Int):=by omega
        clear hlen
        go_upto_region 18 with (fail)
        go_region
        try go_wp2
        go_roundw
        case rel=>exact ⟨q + 1,by omega,intNum,HM,HB8⟩
        case measure=>simp [intOf]; omega
      ·have hqk:q = k:=by omega
       subst hqk
       have HR:=Lib.hid (show PgoP xs w (.returned (.slice (some ⟨g,0,none⟩) j j)) wr from ⟨Qs,_,rfl,HG6.out.bel,HQS.out,by rw [HXN.out]; exact HG6.out.own,fun y hy=>((HP2.out y hy).keep (fun b hb=>HB6.out.block b hb.2)).more fun b hb=>⟨Nat.le_trans HB2.out.size hb.1,Nat.lt_of_lt_of_le hb.2 HB6.out.size⟩⟩)
       go_wp2
       go_ret
       exact HR.out
end
section
open Go.RowKit Go.Sort
theorem BO.anew {α β:Type} {R:Rep α} {R':Rep β} {e e':TypeId} {w wx:World} {l:List α} {v:Value} {P:List (Nat × Array Value × TypeId)} (h:BO R e w l v P wx):BO R' e' w [] (.slice none 0 0) P wx:=
 ⟨h.bel,Own.nil_,fun p hp=>⟨(h.prv p hp).1,(h.prv p hp).2.1,fun e=>by cases e⟩⟩
theorem nbS_cut {t:ByteArray} {xs:List Scene} (hc:chkE ⟨t,xs⟩ = 0) (h:¬ noneN xs = xs.length):nbS xs = xs:=by
 unfold nbS
 rw [if_neg h,cutS_all hc]
theorem nbE_five {xs:List Scene} (h:¬ noneN xs = xs.length) (h0:0 < noneN xs):nbE xs = 5:=by
 unfold nbE
 rw [if_neg h,if_pos h0]
theorem nb_two {t:ByteArray} {xs:List Scene} (hc:chkE ⟨t,xs⟩ = 0) (hl:xs.length ≤ 500) (hp:∀ x ∈ xs,x.paras.length ≤ 61) (h:noneN xs = xs.length ∨ noneN xs = 0) :
  rsE none ((nbS xs).map (·.no)) = nbE xs ∧ ∀ y ∈ nbS xs,y.no.size ≤ 10000:=by
 have e:=nbE_rs hc hl hp
 by_cases h0:noneN xs = xs.length
 ·rw [if_pos h0] at e
  refine ⟨e.symm,fun y hy=>?_⟩
  have hb:nbE xs = 0:=by unfold nbE; rw [if_pos h0]
  have:=((nb_ok hc hb hl hp).1 y hy).1.sizes.1
  omega
 ·have h2:noneN xs = 0:=h.resolve_left h0
  rw [if_neg h0,if_neg (by omega)] at e
  rw [nbS_cut hc h0]
  refine ⟨e.symm,fun y hy=>?_⟩
  have:=(LnOk.of (chkE_ok hc) (y:=y) hy).sizes.1
  omega
theorem lkFr_len {xs:List Scene} (h:NbOk xs):(lkFr xs).length = (lkPg xs).length:=by
 rw [(lk_own h).2,List.length_map,List.length_range]
theorem lfK_at {xs:List Scene} (h:NbOk xs) {Qs:List PgL} (hQ:Qs.map (·.1) = pagesB ((xs.map blocksS).flatten)) {i:Nat} (hi:i < Qs.length) (hf:i < (lkFr xs).length) :
  (lfK xs Qs xs.length)[i]? = some ((lkFr xs)[i],Qs[i].2):=by
 have hq:(lkPg xs).length = Qs.length:=by rw [(lk_own h).1,← hQ,List.length_map]
 have e:(lkFr xs)[i]? = some (setK (tpR (xs.map blocksS) ([],[])) (stR (xs.map blocksS) ([],[])) (xs.map (·.no)) (fun _=>blkS) xs.length i):=by
  rw [(lk_own h).2,List.getElem?_map,List.getElem?_range (by rw [hq]; exact hi),Option.map_some,
   firR_set _ _ _ _ (fun l hl=>by
    obtain ⟨x,_,rfl⟩:=List.mem_map.1 hl
    obtain ⟨a,t,e,_⟩:=blocks_shape x
    rw [e]
    exact List.cons_ne_nil _ _) (by rw [List.length_map,List.length_map]),List.length_map]
 rw [List.getElem?_eq_getElem hf] at e
 injection e with e
 unfold lfK
 rw [List.getElem?_map,List.getElem?_range hi,Option.map_some,← e,List.getElem?_eq_getElem hi]
 rfl
theorem leAt {w:World} {F:Nat → Prop} {l:List LeT} {A:Option Addr} {n c:Nat} (h:Sli leR w F l (.slice A n c)) (k:Nat) (hk:k < l.length):∃ b off,A = some ⟨b,off,none⟩ ∧ F b ∧ w.cell? ⟨b,off + k * 2,none⟩ = some (.string l[k].1) ∧ w.cell? ⟨b,off + k * 2 + 1,none⟩ = some l[k].2:=by
 obtain ⟨b,off,a,e,hb,hr,hc⟩:=h.at_ k hk
 have ha:a = leC l[k]:=hr
 subst ha
 exact ⟨b,off,e,hb,hc 0 _ rfl,hc 1 _ rfl⟩
end
section
open Go.RowKit Go.Sort
def LockR (t:ByteArray) (xs:List Scene) (w:World) (e:Ending) (w':World):Prop:=∃ d:Value,e = .returned (.tuple #[d,.int .i64 (lockE ⟨t,xs⟩)]) ∧ Below w.heap.size w w' ∧ (¬ lockE ⟨t,xs⟩ = 0 → d = .agg drZ) ∧
 (lockE ⟨t,xs⟩ = 0 → ∃ (sc:List (Scene × Value)) (vS lv:Value) (Ps:List (List ByteArray × Value)),d = .agg (drC 1 t vS (.slice none 0 0) lv) ∧ sc.map (·.1) = nbS xs ∧ Ps.map (·.1) = lkPg (nbS xs) ∧ (lkFr (nbS xs)).length = Ps.length ∧
  Sli svR w' (fun q=>q < w'.heap.size) sc vS ∧ (∀ y ∈ sc,Sli paraR w' (fun q=>q < w'.heap.size) y.1.paras y.2) ∧ (∀ q ∈ Ps,Sli strR w' (fun q=>q < w'.heap.size) q.1 q.2) ∧
  Sli lfR w' (fun q=>q < w'.heap.size) (lvs (lkFr (nbS xs)) Ps Ps.length) lv)
theorem lockR_no {t:ByteArray} {xs:List Scene} {w w':World} {z:Int} (hz:¬ z = 0) (h:lockE ⟨t,xs⟩ = z) (hb:Below w.heap.size w w'):LockR t xs w (.returned (.tuple #[.agg drZ,.int .i64 z])) w':=
 ⟨_,by rw [h],hb,fun _=>rfl,fun h2=>absurd (h.symm.trans h2) hz⟩
set_option maxRecDepth 100000 in
set_option maxHeartbeats 16000000 in
theorem lockOf_c {F:Nat → Prop} (t:ByteArray) (ls:List (Scene × Value)) (v:Value) (w:World) (h:ScL w F t ls v) (hl:ls.length ≤ 91) (hpn:∀ y ∈ ls,y.1.paras.length ≤ 61) (hm:MaxLaid w) (he:ErrsLaid w) (hp:PowLaid w) (hsp:SpLaid w) :
  Calls Tryz.prog 8 #[.agg #[.string t,v]] w (LockR t (ls.map (·.1)) w):=by
 obtain ⟨i0,hi0,hz0,hz1,hz2⟩:=info_parts (show (Tryz.prog.info? 58).map (fun i=>(i.zero,i.size,i.bytes)) = some (some (.agg #[.string ⟨#[]⟩,.int .i64 0,.string ⟨#[]⟩,.slice none 0 0]),4,64) by kernel_rfl)
 obtain ⟨A,c,rfl,hlc,hcm⟩:=h.sli.form
 obtain ⟨L,hL⟩:∃ L,ls.length = L:=⟨_,rfl⟩
 have htl:=h.tl
 have HSC:=Lib.hid (fun (W:World) (hb:Below w.heap.size w W)=>h.below hb)
 have HMX:=Lib.hid (fun (W:World) (hb:Below w.heap.size w W)=>max_below hm hb (Nat.le_refl _))
 have HER:=Lib.hid (fun (W:World) (hb:Below w.heap.size w W)=>he.below hb (Nat.le_refl _))
 have HPO:=Lib.hid (fun (W:World) (hb:Below w.heap.size w W)=>pow_below hp hb (Nat.le_refl _))
 obtain ⟨xs,hxs⟩:∃ xs,ls.map (·.1) = xs:=⟨_,rfl⟩
 have HXS:=Lib.hid hxs
 have HXL:=Lib.hid (show xs.length = L by rw [← hxs,List.length_map]; exact hL)
 have HL:=Lib.hid hL
 have HSP:=Lib.hid (fun (W:World) (hb:Below w.heap.size w W)=>sp_below hsp hb (Nat.le_refl _))
 have HPN:=Lib.hid hpn
 have HCH:=Lib.hid (fun (W:World) (hb:Below w.heap.size w W)=>show Calls Tryz.prog 22 #[.agg #[.string t,.slice A L c]] W (ChP ⟨t,xs⟩ W) from by
  have h1:=ScriptFault_c t ls (.slice A ls.length c) W (h.below hb) (sp_below hsp hb (Nat.le_refl _)) (max_below hm hb (Nat.le_refl _))
  rw [hL,hxs] at h1
  exact h1)
 rw [hL] at hl hlc ⊢
 rw [hxs]
 have m0:BO lfR 58 w [] (.slice none 0 0) [(w.heap.size + 1,drZ,34),(w.heap.size,xCs t (.slice A L c),28)] ((w.alloc (.cells (xCs t (.slice A L c)) 28)).alloc (.cells drZ 34)):=by
  have h:=((BO.start (R:=lfR) (e:=58) w).new (xCs t (.slice A L c)) 28).new drZ 34
  rw [show (w.alloc (.cells (xCs t (.slice A L c)) 28)).heap.size = w.heap.size + 1 by simp] at h
  exact h
 clear h hm he hp hL hxs hsp hpn
 go_enter Tryz.func8,Tryz.ntmps8
 go_upto_region 1 with (fail)
 generalize hW:(w.alloc (.cells #[.string t,.slice A L c] 28)).alloc (.cells #[.int .i64 0,.string ⟨#[]⟩,.slice none 0 0,.slice none 0 0,.slice none 0 0] 34) = w1
 have G1:=Lib.hid (show BO lfR 58 w [] (.slice none 0 0) [(w.heap.size + 1,drZ,34),(w.heap.size,xCs t (.slice A L c),28)] w1 by rw [← hW]; exact m0)
 clear m0 hW
 have HXC:=Lib.hid (fun (W:World) (h:BO lfR 58 w [] (.slice none 0 0) [(w.heap.size + 1,drZ,34),(w.heap.size,xCs t (.slice A L c),28)] W)=>show (W.cell? ⟨w.heap.size,0,none⟩ = some (.string t) ∧ W.cell? ⟨w.heap.size,1,none⟩ = some (.slice A L c)) from
  have a:=h.cell (p:=(w.heap.size,xCs t (.slice A L c),28)) (by simp)
  ⟨a.1 0,a.1 1⟩)
 have HRC:=Lib.hid (fun (W:World) (hb:W.heap[w.heap.size + 1]? = some (.cells drZ 34 (0,0)))=>show (W.cell? ⟨w.heap.size + 1,0,none⟩ = some (.int .i64 0) ∧ W.cell? ⟨w.heap.size + 1,1,none⟩ = some (.string ⟨#[]⟩) ∧ W.cell? ⟨w.heap.size + 1,2,none⟩ = some (.slice none 0 0) ∧ W.cell? ⟨w.heap.size + 1,3,none⟩ = some (.slice none 0 0) ∧ W.cell? ⟨w.heap.size + 1,4,none⟩ = some (.slice none 0 0)) ∧ (W.frozen? ⟨w.heap.size + 1,0,none⟩ = false ∧ W.frozen? ⟨w.heap.size + 1,1,none⟩ = false ∧ W.frozen? ⟨w.heap.size + 1,2,none⟩ = false ∧ W.frozen? ⟨w.heap.size + 1,3,none⟩ = false ∧ W.frozen? ⟨w.heap.size + 1,4,none⟩ = false) from
  have a:=str_cells hb
  ⟨⟨a.1 0,a.1 1,a.1 2,a.1 3,a.1 4⟩,a.2 0,a.2 1,a.2 2,a.2 3,a.2 4⟩)
 obtain ⟨d0,d1⟩:=HXC.out w1 G1.out
 have HCK:=Lib.hid (HCH.out w1 G1.out.bel)
 go_wp2_with fail
 refine HCK.out.mono ?_
 rintro e w2 ⟨rfl,hb2⟩
 have G2:=Lib.hid (G1.out.below hb2)
 clear hb2 G1 d0 d1 HCK HCH
 obtain ⟨d0,d1⟩:=HXC.out w2 G2.out
 obtain ⟨⟨y0,y1,y2,y3,y4⟩,f0,f1,f2,f3,f4⟩:=HRC.out w2 (G2.out.prv (w.heap.size + 1,drZ,34) (by simp)).1
 obtain ⟨E,hE⟩:∃ E,chkE ⟨t,xs⟩ = E:=⟨_,rfl⟩
 have HE:=Lib.hid hE
 rw [hE]
 clear hE
 by_cases hE0:E = 0
 case neg=>
  have q1:(E == 0) = false:=beq_eq_false_iff_ne.2 hE0
  have HNO:=Lib.hid (fun (W:World) (hb:Below w.heap.size w W)=>lockR_no (t:=t) (xs:=xs) hE0 (by unfold lockE; rw [HE.out,if_pos hE0]) hb)
  have HB2:=Lib.hid G2.out.bel
  clear hE0 G2 HE
  go_wp2
  refine ⟨rfl,.tuple #[.agg drZ,.int .i64 E],(by rw [results_cell_tmp rfl]; go_simp; rfl),?_⟩
  refine HNO.out _ ?_
  repeat (first | with_reducible exact HB2.out | with_reducible refine Below.drew ?_ | with_reducible refine Below.setCell ?_ (by dsimp only; omega) _)
 subst hE0
 clear y0 y1 y2 y3 y4 f0 f1 f2 f3 f4
 go_upto_region 6 with (fail)
 have hLL:=HL.out
 rw [hLL] at HSC
 clear hLL d0 d1 HXC
 go_loopw [5,24] (fun s5 s24 wr=>∃ k:Nat,k ≤ L ∧ s24 = .int .i64 k ∧ s5 = .int .i64 ((k - noneN (xs.take k):Nat):Int) ∧ Hid (BO lfR 58 w [] (.slice none 0 0) [(w.heap.size + 1,drZ,34),(w.heap.size,xCs t (.slice A L c),28)] wr)) (fun _ s24 _=>L - (intOf s24).toNat)
 case atStart=>exact ⟨0,Nat.zero_le _,rfl,rfl,G2⟩
 case round=>
  clear G2
  obtain ⟨k,hk,rfl,rfl,HG⟩:=hrel
  have hnl:noneN (xs.take k) ≤ k:=by
   have h1:=noneN_le (xs.take k)
   rw [List.length_take] at h1
   omega
  by_cases hlt:k < L
  ·have hkl:k < ls.length:=by rw [HL.out]; exact hlt
   have hkx:k < xs.length:=by rw [HXL.out]; exact hlt
   obtain ⟨b,off,eA,hfb,c0,c1,c2,c3,c4⟩:=scAt (HSC.out wr HG.out.bel).sli k hkl
   obtain ⟨A4,cc4,h4,_,_⟩:=((HSC.out wr HG.out.bel).par _ (List.getElem_mem hkl)).form
   have hxe:(ls[k]'hkl).1 = xs[k]'hkx:=by simp only [← HXS.out,List.getElem_map]
   rw [h4] at c4
   rw [hxe] at c0 c1 c2 c3 c4
   have HST:=Lib.hid (noneN_step hkx)
   generalize (xs[k]'hkx) = x at *
   have HG2:=Lib.hid (HG.out.alloc (.cells #[.string x.no,.int .i64 x.place,.string x.set,.int .i64 x.time,.slice A4 x.paras.length cc4] 46))
   have hx6:=heap_alloc_new wr (.cells #[.string x.no,.int .i64 x.place,.string x.set,.int .i64 x.time,.slice A4 x.paras.length cc4] 46)
   subst eA
   clear h4 hxe HG hfb
   go_upto_region 8 with (fail)
   generalize wr.alloc (.cells #[.string x.no,.int .i64 x.place,.string x.set,.int .i64 x.time,.slice A4 x.paras.length cc4] 46) = w6 at *
   generalize wr.heap.size = X at *
   obtain ⟨e0,e1,e2,e3,e4⟩:=sc_cells (str_cells hx6)
   clear hx6 c0 c1 c2 c3 c4 e1 e2 e3 e4
   cases ce:x.no.toList.isEmpty with
   | true=>
    have HN2:=Lib.hid (show noneN (xs.take (k + 1)) = noneN (xs.take k) + 1 by rw [HST.out,if_pos ((empty_iff x.no).1 ce)])
    go_wp2
    go_roundw
    case rel=>exact ⟨k + 1,by omega,intNum,by rw [HN2.out]; congr 1; omega,HG2⟩
    case measure=>simp [intOf]; omega
   | false=>
    have HN2:=Lib.hid (show noneN (xs.take (k + 1)) = noneN (xs.take k) by rw [HST.out,if_neg (fun h=>by rw [(empty_iff x.no).2 h] at ce; cases ce)]; rfl)
    go_wp2
    go_roundw
    case rel=>exact ⟨k + 1,by omega,intNum,by rw [HN2.out]; congr 1; omega,HG2⟩
    case measure=>simp [intOf]; omega
  ·have hkL:k = L:=by omega
   subst hkL
   have hall:xs.take k = xs:=List.take_of_length_le (by rw [HXL.out]; exact Nat.le_refl _)
   rw [hall] at hnl ⊢
   obtain ⟨m0,hm0⟩:∃ m0,k - noneN xs = m0:=⟨_,rfl⟩
   rw [hm0]
   have HM0:=Lib.hid (show noneN xs + m0 = k by omega)
   have hmk:m0 ≤ k:=by omega
   clear hall hm0 hnl
   have hXz:w.heap.size < wr.heap.size:=HG.out.plt (p:=(w.heap.size,xCs t (.slice A k c),28)) (by simp)
   have hRz:w.heap.size + 1 < wr.heap.size:=HG.out.plt (p:=(w.heap.size + 1,drZ,34)) (by simp)
   have dd:=(str_cells (HG.out.prv (w.heap.size,xCs t (.slice A k c),28) (by simp)).1).1
   have d0:wr.cell? ⟨w.heap.size,0,none⟩ = some (.string t):=dd 0
   have d1:wr.cell? ⟨w.heap.size,1,none⟩ = some (.slice A k c):=dd 1
   clear dd
   go_upto_if 35 with (fail)
   go_cut [] (fun wx=>∃ (sc:List (Scene × Value)) (A5:Option Addr) (c5:Nat),Hid (noneN xs = xs.length ∨ noneN xs = 0) ∧ Hid (sc.map (·.1) = nbS xs) ∧ Hid (BO lfR 58 w [] (.slice none 0 0) [(w.heap.size + 1,drZ,34),(w.heap.size,xCs t (.slice A5 k c5),28)] wx) ∧ Hid (Sli svR wx (fun q=>q < wx.heap.size ∧ ¬ q = w.heap.size ∧ ¬ q = w.heap.size + 1) sc (.slice A5 k c5)) ∧ Hid (∀ y ∈ sc,Sli paraR wx (fun q=>q < wx.heap.size ∧ ¬ q = w.heap.size ∧ ¬ q = w.heap.size + 1) y.1.paras y.2))
   case first=>
    by_cases hm0:m0 = 0
    ·subst hm0
     have HNU:=Lib.hid (show Calls Tryz.prog 13 #[.agg #[.string t,.slice A k c]] wr (fun e w'=>∃ v',e = .returned (.agg (xCs t v')) ∧ Own svR w' wr.heap.size wr.heap.size 46 (numbTo ls.length ls) v' ∧ Below wr.heap.size wr w') from by
      have h1:=Numbered_c t ls (.slice A k c) wr (HSC.out wr HG.out.bel).sli (fun q hq=>by have h2:=(HSC.out wr HG.out.bel).lt q hq; have h3:=HG.out.size; omega) (by rw [HL.out]; omega) (fun x hx=>by
       obtain ⟨A9,c9,e9,_,_⟩:=((HSC.out wr HG.out.bel).par x hx).form
       exact ⟨A9,_,c9,e9⟩)
      exact h1)
     go_wp2_with fail
     refine HNU.out.mono ?_
     rintro e w4 ⟨v',rfl,hown,hb4⟩
     have hzr:=HG.out.size
     have hz4:=hb4.size
     have hs4:=hown.sliF (enc:=fun x:Scene × Value=>x.1.cells x.2) (hn:=fun _=>rfl) (F:=fun q=>q < w4.heap.size ∧ ¬ q = w.heap.size ∧ ¬ q = w.heap.size + 1) (fun g hg=>by have:=hown.block g hg; omega)
     obtain ⟨A5,c5,e5,_,_⟩:=hs4.form
     rw [numbTo_len,HL.out] at e5
     subst e5
     have G4:=Lib.hid (HG.out.below hb4)
     have HSC4:=HSC.out w4 G4.out.bel
     have HFL:=(HSC.out w (Below.refl _ w)).lt
     have HS4:=Lib.hid hs4
     have HP4:=Lib.hid (numbTo_inn (k:=ls.length) (by rw [HL.out]; omega) (F:=fun q=>q < w4.heap.size ∧ ¬ q = w.heap.size ∧ ¬ q = w.heap.size + 1) (fun x hx=>(HSC4.par x hx).more fun q hq=>by have:=HFL q hq; omega))
     have HN4:=Lib.hid (show (numbTo ls.length ls).map (·.1) = nbS xs from by
      rw [numTo_map,HXS.out]
      unfold nbS
      rw [if_pos (by have:=HM0.out; have:=HXL.out; omega),HXL.out,HL.out])
     have HT4:=Lib.hid (show noneN xs = xs.length ∨ noneN xs = 0 from .inl (by have:=HM0.out; have:=HXL.out; omega))
     obtain ⟨⟨x0,x1⟩,g0,g1⟩:(w4.cell? ⟨w.heap.size,0,none⟩ = some (.string t) ∧ w4.cell? ⟨w.heap.size,1,none⟩ = some (.slice A k c)) ∧ w4.frozen? ⟨w.heap.size,0,none⟩ = false ∧ w4.frozen? ⟨w.heap.size,1,none⟩ = false:=by
      have a:=str_cells (G4.out.prv (w.heap.size,xCs t (.slice A k c),28) (by simp)).1
      exact ⟨⟨a.1 0,a.1 1⟩,a.2 0,a.2 1⟩
     have hX4:w.heap.size < w4.heap.size:=by omega
     have hG4:=((G4.out.less (Q:=[(w.heap.size,xCs t (.slice A k c),28),(w.heap.size + 1,drZ,34)]) (by simp)).set (i:=0) (fun h=>h) (.string t) (by simp)).set (i:=1) (fun h=>h) (.slice A5 k c5) (by simp)
     have HG4:=Lib.hid hG4
     clear hs4 hown HNU HSC4 HFL G4 HG hb4
     unfold xCs
     go_wp2
     go_meet
     refine ⟨numbTo ls.length ls,A5,c5,HT4,HN4,Lib.hid (HG4.out.less (by simp [xCs])),Lib.hid ?_,Lib.hid fun y hy=>?_⟩
     ·exact ((HS4.out.setCell (p:=⟨w.heap.size,0,none⟩) (.string t) (fun h=>h.2.1 rfl)).setCell (p:=⟨w.heap.size,1,none⟩) (.slice A5 k c5) (fun h=>h.2.1 rfl)).more fun q hq=>by simpa using hq
     ·exact (((HP4.out y hy).setCell (p:=⟨w.heap.size,0,none⟩) (.string t) (fun h=>h.2.1 rfl)).setCell (p:=⟨w.heap.size,1,none⟩) (.slice A5 k c5) (fun h=>h.2.1 rfl)).more fun q hq=>by simpa using hq
    ·have e0:((m0:Int) == 0) = false:=beq_eq_false_iff_ne.2 (by omega)
     have hm1:¬ (m0:Int) = 0:=by omega
     by_cases hmL:m0 = k
     ·have HT4:=Lib.hid (show noneN xs = xs.length ∨ noneN xs = 0 from .inr (by have:=HM0.out; omega))
      have HN4:=Lib.hid (show ls.map (·.1) = nbS xs from by
       rw [HXS.out,nbS_cut HE.out (by have:=HM0.out; have:=HXL.out; omega)])
      have hlt2:¬ (m0:Int) < (k:Int):=by omega
      have HFL:=Lib.hid (HSC.out w (Below.refl _ w)).lt
      have HS4:=Lib.hid (HSC.out wr HG.out.bel)
      have hzr:=HG.out.size
      clear hmL hm0
      go_wp2
      go_meet
      refine ⟨ls,A,c,HT4,HN4,HG,Lib.hid ?_,Lib.hid fun y hy=>?_⟩
      ·exact HS4.out.sli.more fun q hq=>by have:=HFL.out q hq; omega
      ·exact (HS4.out.par y hy).more fun q hq=>by have:=HFL.out q hq; omega
     ·have h5:=nbE_five (xs:=xs) (by have:=HM0.out; have:=HXL.out; omega) (by have:=HM0.out; omega)
      have HNO:=Lib.hid (fun (W:World) (hb:Below w.heap.size w W)=>lockR_no (t:=t) (xs:=xs) (z:=5) (by decide) (by unfold lockE; rw [if_neg (by rw [HE.out]; decide),h5,if_pos (by decide)]) hb)
      have hlt2:(m0:Int) < (k:Int):=by omega
      have HB2:=Lib.hid HG.out.bel
      obtain ⟨⟨y0,y1,y2,y3,y4⟩,f0,f1,f2,f3,f4⟩:=HRC.out wr (HG.out.prv (w.heap.size + 1,drZ,34) (by simp)).1
      clear h5 hmL hm0 HG
      go_wp2
      refine ⟨rfl,.tuple #[.agg drZ,.int .i64 5],(by rw [results_cell_tmp rfl]; go_simp; rfl),?_⟩
      refine HNO.out _ ?_
      repeat (first | with_reducible exact HB2.out | with_reducible refine Below.drew ?_ | with_reducible refine Below.setCell ?_ (by dsimp only; omega) _)
   case rest=>
    obtain ⟨sc,A5,c5,HT4,HN4,G4,S4,P4⟩:=hcut
    clear hmk hXz hRz d0 d1 HM0 HG hlt hk
    obtain ⟨i1,hi1,hx0,hx1,hx2⟩:=info_parts (show (Tryz.prog.info? 9).map (fun i=>(i.zero,i.size,i.bytes)) = some (some (.string ⟨#[]⟩),1,16) by kernel_rfl)
    have HKN:=Lib.hid (show sc.length = k from by
     have h1:=congrArg List.length HN4.out
     rw [List.length_map,nbS_len,HXL.out] at h1
     exact h1)
    have HPX:=Lib.hid (show ∀ x ∈ xs,x.paras.length ≤ 61 from fun x hx=>by
     rw [← HXS.out] at hx
     obtain ⟨y,hy,rfl⟩:=List.mem_map.1 hx
     exact HPN.out y hy)
    have HTW:=Lib.hid (nb_two HE.out (by rw [HXL.out]; omega) HPX.out HT4.out)
    obtain ⟨nos,hnos⟩:∃ nos,sc.map (·.1.no) = nos:=⟨_,rfl⟩
    have HNS:=Lib.hid hnos
    have HNL:=Lib.hid (show nos.length = k by rw [← hnos,List.length_map]; exact HKN.out)
    have HNB:=Lib.hid (show (nbS xs).map (·.no) = nos by rw [← HN4.out,List.map_map]; exact hnos)
    clear hnos HT4 HPN HSC HL HXS
    obtain ⟨x0,x1⟩:wc.cell? ⟨w.heap.size,0,none⟩ = some (.string t) ∧ wc.cell? ⟨w.heap.size,1,none⟩ = some (.slice A5 k c5):=by
     have a:=(str_cells (G4.out.prv (w.heap.size,xCs t (.slice A5 k c5),28) (by simp)).1).1
     exact ⟨a 0,a 1⟩
    have E4:=Lib.hid (G4.out.anew (R':=strR) (e':=9))
    have K4:=Lib.hid (show KQ wc.heap.size w.heap.size wc wc (.slice none 0 0) from ⟨Nat.le_refl _,fun q hq hD=>⟨rfl,fun e=>by cases e⟩⟩)
    clear G4
    go_wp2
    go_loopw [8,47] (fun s8 s47 wr=>∃ i:Nat,i ≤ k ∧ s47 = .int .i64 i ∧ Hid (BO strR 9 w (nos.take i) s8 [(w.heap.size + 1,drZ,34),(w.heap.size,xCs t (.slice A5 k c5),28)] wr) ∧ Hid (KQ wc.heap.size w.heap.size wc wr s8)) (fun _ s47 _=>k - (intOf s47).toNat)
    case atStart=>exact ⟨0,Nat.zero_le _,rfl,E4,K4⟩
    case round=>
     clear E4 K4 x0 x1
     obtain ⟨i,hi,rfl,HO,HK⟩:=hrel
     have hzo:=HO.out.size
     have hntl:(nos.take i).length = i:=by rw [List.length_take,HNL.out]; omega
     obtain ⟨A8,c8,e8,_,_⟩:=(HO.out.own.sli (F:=fun _=>True) (fun _ _ _=>trivial) (fun _ _=>trivial)).form
     rw [hntl] at e8
     subst e8
     by_cases hlt:i < k
     ·have hil:i < sc.length:=by rw [HKN.out]; exact hlt
      obtain ⟨b,off,eA,hfb,c0,c1,c2,c3,c4⟩:=scAt (HK.out.sli S4.out (fun q hq=>⟨hq.1,hq.2.1⟩)) i hil
      obtain ⟨A4,cc4,h4,_,_⟩:=(P4.out _ (List.getElem_mem hil)).form
      rw [h4] at c4
      have HTK:=Lib.hid (show nos.take (i + 1) = nos.take i ++ [(sc[i]'hil).1.no] by
       have h1:i < nos.length:=by rw [HNL.out]; exact hlt
       rw [List.take_succ_eq_append_getElem h1]
       simp only [← HNS.out,List.getElem_map])
      generalize (sc[i]'hil).1 = x at *
      subst eA
      have O2:=Lib.hid (HO.out.alloc (.cells #[.string x.no,.int .i64 x.place,.string x.set,.int .i64 x.time,.slice A4 x.paras.length cc4] 46))
      have K2:=Lib.hid (HK.out.alloc (.cells #[.string x.no,.int .i64 x.place,.string x.set,.int .i64 x.time,.slice A4 x.paras.length cc4] 46))
      have hx6:=heap_alloc_new wr (.cells #[.string x.no,.int .i64 x.place,.string x.set,.int .i64 x.time,.slice A4 x.paras.length cc4] 46)
      have hz6:w.heap.size ≤ (wr.alloc (.cells #[.string x.no,.int .i64 x.place,.string x.set,.int .i64 x.time,.slice A4 x.paras.length cc4] 46)).heap.size:=O2.out.size
      have hX6:wr.heap.size < (wr.alloc (.cells #[.string x.no,.int .i64 x.place,.string x.set,.int .i64 x.time,.slice A4 x.paras.length cc4] 46)).heap.size:=by simp
      clear h4 HO HK hfb
      go_upto_region 19 with (fail)
      generalize wr.alloc (.cells #[.string x.no,.int .i64 x.place,.string x.set,.int .i64 x.time,.slice A4 x.paras.length cc4] 46) = w6 at *
      generalize wr.heap.size = X at *
      obtain ⟨e0,e1,e2,e3,e4⟩:=sc_cells (str_cells hx6)
      clear hx6 c0 c1 c2 c3 c4 e1 e2 e3 e4
      have O3:=Lib.hid (O2.out.alloc (.cells #[.string x.no] 9))
      have K3:=Lib.hid (K2.out.alloc (.cells #[.string x.no] 9))
      have hz7:w.heap.size ≤ (w6.alloc (.cells #[.string x.no] 9)).heap.size:=O3.out.size
      clear O2 K2
      go_wp2_with (at_builtin; (refine wpList_pushB (R:=strR) rfl _ _ _ rfl w.heap.size w.heap.size 9 i1 _ 16 Tryz.underlying31 hi1 hx0 hx1 hx2 rfl (by decide) _ (.slice A8 i c8) (nos.take i) rfl O3.out.own x.no _ rfl (oneC rfl) w6.heap.size _ _ (heap_alloc_new w6 _) rfl (by rw [hntl]; unfold maxLen; omega) (by rw [hntl]; omega) hz7 ?_); intro g cap8 w8 hown8 hg8 hat8 hlt8)
      have O4:=Lib.hid (O3.out.more hown8 hg8 rfl hat8)
      have K4:=Lib.hid (K3.out.more (v':=.slice (some ⟨g,0,none⟩) ((nos.take i).length + 1) cap8) hg8 rfl hat8)
      rw [hntl] at O4
      clear O3 K3 hown8 hg8 hat8 hlt8
      go_roundw
      case rel=>exact ⟨i + 1,by omega,intNum,Lib.hid (by rw [HTK.out]; exact O4.out),K4⟩
      case measure=>simp [intOf]; omega
     ·have hik:i = k:=by omega
      subst hik
      have htk:nos.take i = nos:=List.take_of_length_le (by rw [HNL.out]; exact Nat.le_refl _)
      rw [htk] at HO
      have HRI:=Lib.hid (show Calls Tryz.prog 23 #[.slice A8 i c8] wr (fun e w'=>e = .returned (.int .i64 (nbE xs)) ∧ Below wr.heap.size wr w') from by
       have h1:=rising_c (F:=fun q=>q < wr.heap.size) nos (.slice A8 i c8) wr (HO.out.own.sli (fun b h1 h2=>h2) (fun g hg=>(HO.out.own.block g hg).2)) (fun q hq=>hq) (fun x hx=>by
        rw [← HNB.out] at hx
        obtain ⟨y,hy,rfl⟩:=List.mem_map.1 hx
        exact HTW.out.2 y hy) (HER.out wr HO.out.bel) (by rw [HNL.out]; omega)
       rw [show rsE none nos = nbE xs by rw [← HNB.out]; exact HTW.out.1] at h1
       exact h1)
      clear htk hntl
      go_wp2_with fail
      refine HRI.out.mono ?_
      rintro e w7 ⟨rfl,hb7⟩
      have G7:=Lib.hid ((HO.out.anew (R':=lfR) (e':=58)).below hb7)
      have K7:=Lib.hid (HK.out.below hb7)
      have hz7:=G7.out.size
      have hR7:w.heap.size + 1 < w7.heap.size:=G7.out.plt (p:=(w.heap.size + 1,drZ,34)) (by simp)
      clear hb7 HO HK HRI
      obtain ⟨E,hE⟩:∃ E,nbE xs = E:=⟨_,rfl⟩
      have HE2:=Lib.hid hE
      rw [hE]
      clear hE
      by_cases hE0:E = 0
      case neg=>
       have q1:(E == 0) = false:=beq_eq_false_iff_ne.2 hE0
       have HNO:=Lib.hid (fun (W:World) (hb:Below w.heap.size w W)=>lockR_no (t:=t) (xs:=xs) hE0 (by unfold lockE; rw [if_neg (by rw [HE.out]; decide),HE2.out,if_pos hE0]) hb)
       have HB2:=Lib.hid G7.out.bel
       obtain ⟨⟨y0,y1,y2,y3,y4⟩,f0,f1,f2,f3,f4⟩:=HRC.out w7 (G7.out.prv (w.heap.size + 1,drZ,34) (by simp)).1
       clear hE0 G7
       go_wp2
       refine ⟨rfl,.tuple #[.agg drZ,.int .i64 E],(by rw [results_cell_tmp rfl]; go_simp; rfl),?_⟩
       refine HNO.out _ ?_
       repeat (first | with_reducible exact HB2.out | with_reducible refine Below.drew ?_ | with_reducible refine Below.setCell ?_ (by dsimp only; omega) _)
      subst hE0
      have HNK:=Lib.hid (nb_ok HE.out HE2.out (by rw [HXL.out]; omega) HPX.out)
      obtain ⟨x0,x1⟩:w7.cell? ⟨w.heap.size,0,none⟩ = some (.string t) ∧ w7.cell? ⟨w.heap.size,1,none⟩ = some (.slice A5 i c5):=by
       have a:=(str_cells (G7.out.prv (w.heap.size,xCs t (.slice A5 i c5),28) (by simp)).1).1
       exact ⟨a 0,a 1⟩
      have HS7:=Lib.hid (show ScL w7 (fun q=>q < w7.heap.size ∧ ¬ q = w.heap.size + 1) t sc (.slice A5 i c5) from
       ⟨(K7.out.sli S4.out (fun q hq=>⟨hq.1,hq.2.1⟩)).more fun q hq=>⟨Nat.lt_of_lt_of_le hq.1 K7.out.1,hq.2.2⟩,fun y hy=>(K7.out.sli (P4.out y hy) (fun q hq=>⟨hq.1,hq.2.1⟩)).more fun q hq=>⟨Nat.lt_of_lt_of_le hq.1 K7.out.1,hq.2.2⟩,fun q hq=>hq.1,htl,by rw [HKN.out]; omega,fun y hy=>by
        have hy2:y.1 ∈ nbS xs:=by rw [← HN4.out]; exact List.mem_map_of_mem hy
        obtain ⟨h1,h2⟩:=HNK.out.1 y.1 hy2
        have h3:=h1.sizes
        exact ⟨by omega,by omega,by omega,fun p hp=>by have:=(h1.para hp).1; omega⟩⟩)
      have G8:=Lib.hid (show BO lfR 58 w [] (.slice none 0 0) [(w7.heap.size,drC 1 t (.slice A5 i c5) (.slice none 0 0) (.slice none 0 0),34),(w.heap.size + 1,drZ,34)] (w7.alloc (.cells #[.int .i64 1,.string t,.slice A5 i c5,.slice none 0 0,.slice none 0 0] 34)) from
       (G7.out.less (Q:=[(w.heap.size + 1,drZ,34)]) (by simp)).new (drC 1 t (.slice A5 i c5) (.slice none 0 0) (.slice none 0 0)) 34)
      have HS8:=Lib.hid (HS7.out.below ((Below.refl _ w7).alloc (Nat.le_refl _) (.cells #[.int .i64 1,.string t,.slice A5 i c5,.slice none 0 0,.slice none 0 0] 34)))
      have hD8:w7.heap.size < (w7.alloc (.cells #[.int .i64 1,.string t,.slice A5 i c5,.slice none 0 0,.slice none 0 0] 34)).heap.size:=by simp
      have x08:(w7.alloc (.cells #[.int .i64 1,.string t,.slice A5 i c5,.slice none 0 0,.slice none 0 0] 34)).cell? ⟨w.heap.size,0,none⟩ = some (.string t):=(World.cell?_alloc_lt w7 _ ⟨w.heap.size,0,none⟩ (by show w.heap.size < w7.heap.size; omega)).trans x0
      have x18:(w7.alloc (.cells #[.int .i64 1,.string t,.slice A5 i c5,.slice none 0 0,.slice none 0 0] 34)).cell? ⟨w.heap.size,1,none⟩ = some (.slice A5 i c5):=(World.cell?_alloc_lt w7 _ ⟨w.heap.size,1,none⟩ (by show w.heap.size < w7.heap.size; omega)).trans x1
      clear G7 HS7
      go_upto_region 25 with (fail)
      clear x0 x1
      generalize w7.alloc (.cells #[.int .i64 1,.string t,.slice A5 i c5,.slice none 0 0,.slice none 0 0] 34) = w8 at *
      have hDR:¬ w.heap.size + 1 = w7.heap.size:=by omega
      have hD7:w7.heap.size ≤ w7.heap.size:=Nat.le_refl _
      generalize w7.heap.size = D at *
      have HEN:=Lib.hid (show Calls Tryz.prog 25 #[.agg #[.string t,.slice A5 i c5],.slice none 0 0] w8 (EnsP (nbS xs) w8) from by
       have h1:=entriesOf_c t sc (.slice A5 i c5) w8 HS8.out (fun y hy=>(HNK.out.1 y.1 (by rw [← HN4.out]; exact List.mem_map_of_mem hy)).1) (by rw [HKN.out]; exact hl) (HSP.out w8 G8.out.bel) (HER.out w8 G8.out.bel) (by
        rw [HNS.out,← HNB.out]
        refine risK_of (fun j hj=>?_) (fun x hx=>?_)
        ·rw [List.length_map] at hj
         rw [List.getElem_map,List.getElem_map]
         exact HNK.out.2.2 j hj
        ·obtain ⟨y,hy,rfl⟩:=List.mem_map.1 hx
         exact HTW.out.2 y hy)
       rw [HN4.out] at h1
       exact h1)
      go_wp2_with fail
      refine HEN.out.mono ?_
      rintro e w9 ⟨M,v9,rfl,hMn,hMb,hb9,hES⟩
      obtain ⟨A9,c9,e9,_,_⟩:=hES.sli.form
      subst e9
      have hzb9:=hb9.size
      have HPA:=Lib.hid (pagesOf_c M (.slice A9 M.length c9) w9 (nbS xs) hES (fun q hq=>hq.2) hMn hMb (by rw [nbS_len,HXL.out]; exact hl) (fun x hx=>(HNK.out.1 x hx).1) (fun x hx=>(HNK.out.1 x hx).2))
      have G9:=Lib.hid (G8.out.below hb9)
      have HB9:=Lib.hid hb9
      clear hES hMn hMb hb9 HEN G8 x08 x18
      generalize M.length = n9 at *
      go_wp2_with fail
      refine HPA.out.mono ?_
      rintro e w10 ⟨Qs,v10,rfl,hb10,hQ,hown10,hQr⟩
      have HB10:=Lib.hid (HB9.out.trans (hb10.mono HB9.out.size))
      have hz10:=hb10.size
      have G10:=Lib.hid (G9.out.below hb10)
      have hs10:=hown10.sli (F:=fun q=>w9.heap.size ≤ q ∧ q < w10.heap.size) (fun b h1 h2=>⟨h1,h2⟩) (fun g hg=>hown10.block g hg)
      obtain ⟨A7,c7,e7,_,_⟩:=hs10.form
      rw [lfK_len] at e7
      subst e7
      obtain ⟨P,hP⟩:∃ P,Qs.length = P:=⟨_,rfl⟩
      have hPp:(lkPg (nbS xs)).length = P:=by rw [(lk_own HNK.out).1,← hQ,List.length_map,hP]
      obtain ⟨fs,hfs⟩:∃ fs,lkFr (nbS xs) = fs:=⟨_,rfl⟩
      have HFN:=Lib.hid hfs
      have HFL:=Lib.hid (show fs.length = P by rw [← hfs,lkFr_len HNK.out,hPp])
      have HPX2:=Lib.hid hPp
      have HPL:=Lib.hid hP
      have HQ:=Lib.hid hQ
      have HQR:=Lib.hid hQr
      have HS10:=Lib.hid hs10
      have hPc:P ≤ 48000000:=by
       have h1:=(pages_few (xs:=nbS xs) (fun x hx=>(HNK.out.1 x hx).1) (fun x hx=>(HNK.out.1 x hx).2) (by rw [nbS_len,HXL.out]; exact hl)).1
       rw [← (lk_own HNK.out).1,hPp] at h1
       exact h1
      rw [hP]
      clear hP hfs hPp hQ hQr hs10 hown10 HPA hb10 G9
      go_upto_region 26 with (fail)
      have HK10:=Lib.hid (show KQ w10.heap.size D w10 w10 (.slice none 0 0) from ⟨Nat.le_refl _,fun q hq hD=>⟨rfl,fun e=>by cases e⟩⟩)
      have hDw:D < w9.heap.size:=by omega
      have HDC:=Lib.hid (fun (W:World) (lv:Value) (hb:W.heap[D]? = some (.cells (drC 1 t (.slice A5 i c5) (.slice none 0 0) lv) 34 (0,0)))=>show (W.cell? ⟨D,0,none⟩ = some (.int .i64 1) ∧ W.cell? ⟨D,1,none⟩ = some (.string t) ∧ W.cell? ⟨D,2,none⟩ = some (.slice A5 i c5) ∧ W.cell? ⟨D,3,none⟩ = some (.slice none 0 0) ∧ W.cell? ⟨D,4,none⟩ = some lv) ∧ W.frozen? ⟨D,4,none⟩ = false from
       have a:=str_cells hb
       ⟨⟨a.1 0,a.1 1,a.1 2,a.1 3,a.1 4⟩,a.2 4⟩)
      clear hz7 hDR
      have hDR:¬ w.heap.size + 1 = D:=by omega
      clear HB9 HNL HKN HNS HNB K7 S4
      go_loopw [69] (fun iv wr=>∃ (j:Nat) (lv:Value),j ≤ P ∧ iv = .int .i64 j ∧ Hid (BO lfR 58 w (lvs fs Qs j) lv [(D,#[.int .i64 1,.string t,.slice A5 i c5,.slice none 0 0,lv],34),(w.heap.size + 1,drZ,34)] wr) ∧ Hid (KQ w10.heap.size D w10 wr lv)) (fun iv _=>P - (intOf iv).toNat)
      case atStart=>exact ⟨0,_,Nat.zero_le _,rfl,G10,HK10⟩
      case round=>
       clear G10 HK10
       obtain ⟨j,lv,hj2,rfl,HO,HK⟩:=hrel
       have hll:=lvs_len fs Qs j
       obtain ⟨A6,c6,hv6,_,_⟩:=(HO.out.own.sliF (enc:=lfC) (hn:=fun _=>rfl) (F:=fun _=>True) (fun _ _=>trivial)).form
       rw [hll] at hv6
       subst hv6
       have hzo:=HO.out.size
       by_cases hltj:j < P
       ·have hil:j < Qs.length:=by rw [HPL.out]; exact hltj
        have hif:j < fs.length:=by rw [HFL.out]; exact hltj
        have hik:j < (lfK (nbS xs) Qs (nbS xs).length).length:=by rw [lfK_len]; exact hil
        obtain ⟨bp,op,eA,hbp,c0,c1⟩:=leAt (HK.out.sli HS10.out (fun q hq=>⟨hq.2,by have:=hq.1; omega⟩)) j hik
        obtain ⟨A10,c10,e10,_,_⟩:=(HQR.out _ (List.getElem_mem hil)).form
        have hlk:=lfK_at HNK.out HQ.out hil (by rw [HFN.out]; exact hif)
        rw [List.getElem?_eq_getElem hik] at hlk
        injection hlk with hlk
        have hff:(lkFr (nbS xs))[j]'(by rw [HFN.out]; exact hif) = fs[j]'hif:=by simp only [HFN.out]
        rw [hff] at hlk
        rw [hlk] at c0 c1
        dsimp only at c0 c1
        rw [e10] at c1
        have HST:=Lib.hid (show lvs fs Qs (j + 1) = lvs fs Qs j ++ [(itN j,1,fs[j]'hif,.slice A10 (Qs[j]'hil).1.length c10)] by
         rw [lvs,List.getElem?_eq_getElem hif,List.getElem?_eq_getElem hil,Option.map_some,e10]
         rfl)
        generalize fs[j]'hif = f at *
        generalize (Qs[j]'hil).1.length = n10 at *
        generalize lvs fs Qs j = acc at *
        subst eA
        clear e10 hil hif hik hlk hff
        have O2:=Lib.hid (HO.out.new (#[.string f,.slice A10 n10 c10]) 65)
        have K2:=Lib.hid (HK.out.alloc (.cells #[.string f,.slice A10 n10 c10] 65))
        clear HO HK
        go_upto_region 28 with (fail)
        generalize wr.alloc (.cells #[.string f,.slice A10 n10 c10] 65) = w11 at *
        generalize wr.heap.size = E0 at *
        clear c0 c1
        have HDS:=Lib.hid (fun (W:World) (l2:List LfT) (v:Value) (hb:BO lfR 58 w l2 v [(E0,#[.string f,.slice A10 n10 c10],65),(D,#[.int .i64 1,.string t,.slice A5 i c5,.slice none 0 0,.slice A6 j c6],34),(w.heap.size + 1,drZ,34)] W)=>show (W.cell? ⟨D,4,none⟩ = some (.slice A6 j c6) ∧ W.cell? ⟨E0,0,none⟩ = some (.string f) ∧ W.cell? ⟨E0,1,none⟩ = some (.slice A10 n10 c10)) ∧ W.frozen? ⟨D,4,none⟩ = false from
         have a:=str_cells (hb.prv (D,#[.int .i64 1,.string t,.slice A5 i c5,.slice none 0 0,.slice A6 j c6],34) (by simp)).1
         have b:=(str_cells (hb.prv (E0,#[.string f,.slice A10 n10 c10],65) (by simp)).1).1
         ⟨⟨a.1 4,b 0,b 1⟩,a.2 4⟩)
        obtain ⟨ι,ff,hne,hff,hfS⟩:=family (fun W=>W.cell? ⟨D,4,none⟩ = some (.slice A6 j c6) ∧ W.cell? ⟨E0,0,none⟩ = some (.string f) ∧ W.cell? ⟨E0,1,none⟩ = some (.slice A10 n10 c10)) w11 (HDS.out _ _ _ O2.out).1
        have hneW:Nonempty World:=⟨w⟩
        have s0:=fun p=>(hff p).1
        have s1:=fun p=>(hff p).2.1
        have s2:=fun p=>(hff p).2.2
        have HFS:=Lib.hid hfS
        clear hff hfS
        refine wp_region_segs2 [4,10,11] [] [] [([0,2,3,5,7],[1,6,8],4),([9],[],10),([],[],11),([12],[],13)] (by kernel_rfl) (by kernel_rfl) (fun _ _ _ dd _ h=>by cases dd <;> exact h) (fun W=>∃ p:ι,W = ff p) (HFS.out _ (HDS.out _ _ _ O2.out).1) ?_
        refine wpSegs2_step (by simp only [pick,List.getElem?_cons_succ,List.getElem?_cons_zero]; rfl) (by simp only [pick,List.getElem?_cons_succ,List.getElem?_cons_zero]; rfl) rfl (fun K0 hK0 L0 hL0=>?_)
        repeat (first | go_big_quiet_step (fail) | quiet_step (fail))
        refine wpQuiet_nil (hL0 _ ?_)
        repeat (first | go_big_quiet_step (fail) | quiet_step (fail))
        refine wpQuiet_nil ?_
        go_simp
        refine (itoa_c ((j:Int) + 1) w11.drew ⟨by omega,by omega⟩ (HPO.out _ O2.out.bel.drew)).mono ?_
        rintro e w12 ⟨rfl,hb12⟩
        have G12:=Lib.hid (O2.out.drew.below hb12)
        have K12:=Lib.hid ((K2.out.below (Below.refl _ w11).drew).below hb12)
        have hz12:=G12.out.size
        refine hK0 (fun W=>∃ p:ι,W = ff p) _ _ (fun _ h=>h) (HFS.out _ (HDS.out _ _ _ G12.out).1) ?_
        clear hb12 O2 K2
        refine wpSegs2_step (by simp only [pick,List.getElem?_cons_succ,List.getElem?_cons_zero]; rfl) (by simp only [pick,List.getElem?_cons_succ,List.getElem?_cons_zero]; rfl) rfl (fun K1 hK1 L1 hL1=>?_)
        repeat (first | go_big_quiet_step (fail) | quiet_step (fail))
        refine wpQuiet_nil (hL1 _ ?_)
        repeat (first | go_big_quiet_step (fail) | quiet_step (fail))
        refine wpQuiet_nil ?_
        go_simp
        have G13:=Lib.hid (G12.out.alloc (.cells #[.string (itN j),.int .i64 1,.string f,.slice A10 n10 c10] 58))
        have K13:=Lib.hid (K12.out.alloc (.cells #[.string (itN j),.int .i64 1,.string f,.slice A10 n10 c10] 58))
        have HNEW:=Lib.hid (heap_alloc_new w12 (.cells #[.string (itN j),.int .i64 1,.string f,.slice A10 n10 c10] 58))
        have hz13:w.heap.size ≤ (w12.alloc (.cells #[.string (itN j),.int .i64 1,.string f,.slice A10 n10 c10] 58)).heap.size:=G13.out.size
        refine hK1 (fun W=>∃ p:ι,W = ff p) _ _ (fun _ h=>h) (HFS.out _ (HDS.out _ _ _ G13.out).1) ?_
        clear G12 K12
        refine wpSegs2_step (by simp only [pick,List.getElem?_cons_succ,List.getElem?_cons_zero]; rfl) (by simp only [pick,List.getElem?_cons_succ,List.getElem?_cons_zero]; rfl) rfl (fun K2 hK2 L2 hL2=>?_)
        repeat (first | go_big_quiet_step (fail) | quiet_step (fail))
        refine wpQuiet_nil (hL2 _ ?_)
        repeat (first | go_big_quiet_step (fail) | quiet_step (fail))
        refine wpQuiet_nil ?_
        refine oper_push (R:=lfR) rfl _ _ _ rfl w.heap.size w.heap.size 58 i0 _ 64 Tryz.underlying32 hi0 hz0 hz1 hz2 rfl (by decide) _ (.slice A6 j c6) acc rfl G13.out.own ((itN j,1,f,.slice A10 n10 c10):LfT) _ rfl (by intro u hu; simp [lfC] at hu; rcases hu with rfl | rfl | rfl | rfl <;> rfl) w12.heap.size _ _ HNEW.out rfl (by rw [hll]; unfold maxLen; omega) (by rw [hll]; omega) hz13 ?_
        intro g cap8 w14 hown8 hg8 hat8 hlt8
        have G14:=Lib.hid (G13.out.more hown8 hg8 rfl hat8)
        have K14:=Lib.hid (K13.out.more (v':=.slice (some ⟨g,0,none⟩) (acc.length + 1) cap8) hg8 rfl hat8)
        refine hK2 (fun W=>∃ p:ι,W = ff p) _ _ (fun _ h=>h) (HFS.out _ (HDS.out _ _ _ G14.out).1) ?_
        have f8:=(HDS.out _ _ _ G14.out).2
        have c8:=(HDS.out _ _ _ G14.out).1
        rw [hll] at G14 K14 ⊢
        have GA:=Lib.hid ((G14.out.less (Q:=[(D,#[.int .i64 1,.string t,.slice A5 i c5,.slice none 0 0,.slice A6 j c6],34),(w.heap.size + 1,drZ,34)]) (by intro p hp; exact List.mem_cons_of_mem _ hp)).set (i:=4) (fun h=>h) (.slice (some ⟨g,0,none⟩) (j + 1) cap8) (fun p hp=>by rw [List.mem_singleton.1 hp]; exact hDR))
        have KA:=Lib.hid (K14.out.set 4 (.slice (some ⟨g,0,none⟩) (j + 1) cap8))
        clear hown8 hg8 hat8 hlt8 G13 K13 G14 K14 HNEW
        refine wpSegs2_last (by simp only [pick,List.getElem?_cons_succ,List.getElem?_cons_zero]; rfl) (by simp only [pick,List.getElem?_cons_succ,List.getElem?_cons_zero]; rfl) rfl (by rfl) (fun K3 hK3 L3 hL3=>?_)
        repeat (first | go_big_quiet_step (fail) | quiet_step (fail))
        refine wpQuiet_nil (hL3 _ ?_)
        repeat (first | go_big_quiet_step (fail) | quiet_step (fail))
        refine wpQuiet_nil ?_
        go_simp
        refine hK3 _ _ (wpSegs2_end ?_)
        clear s0 s1 s2 f8 c8 hz13
        go_wp2
        go_roundw
        case rel=>exact ⟨j + 1,_,by omega,intNum,Lib.hid (by rw [HST.out]; exact GA.out),KA⟩
        case measure=>simp [intOf]; omega
       ·have hiP:j = P:=by omega
        subst hiP
        obtain ⟨⟨z0,z1,z2,z3,z4⟩,_⟩:=HDC.out wr _ (HO.out.prv (D,#[.int .i64 1,.string t,.slice A5 i c5,.slice none 0 0,.slice A6 j c6],34) (by simp)).1
        obtain ⟨⟨y0,y1,y2,y3,y4⟩,f0,f1,f2,f3,f4⟩:=HRC.out wr (HO.out.prv (w.heap.size + 1,drZ,34) (by simp)).1
        have hR6:w.heap.size + 1 < wr.heap.size:=HO.out.plt (p:=(w.heap.size + 1,drZ,34)) (by simp)
        have HBW:=Lib.hid HO.out.bel
        by_cases h999:999 < j
        ·have HNO:=Lib.hid (fun (W:World) (hb:Below w.heap.size w W)=>lockR_no (t:=t) (xs:=xs) (z:=2) (by decide) (by unfold lockE; rw [if_neg (by rw [HE.out]; decide),if_neg (by rw [HE2.out]; decide),if_pos (by rw [HPX2.out]; exact h999)]) hb)
         have hi9:(999:Int) < (j:Int):=by omega
         clear HO HK
         go_wp2
         refine ⟨rfl,.tuple #[.agg drZ,.int .i64 2],(by rw [results_cell_tmp rfl]; go_simp; rfl),?_⟩
         refine HNO.out _ ?_
         repeat (first | with_reducible exact HBW.out | with_reducible refine Below.drew ?_ | with_reducible refine Below.setCell ?_ (by dsimp only; omega) _)
        ·have hi9:¬ (999:Int) < (j:Int):=by omega
         have hlk:lockE ⟨t,xs⟩ = 0:=by
          unfold lockE
          rw [if_neg (by rw [HE.out]; decide),if_neg (by rw [HE2.out]; decide),if_neg (by rw [HPX2.out]; exact h999)]
         have HLK:=Lib.hid hlk
         have HEND:=Lib.hid (fun (W:World) (hW:∀ q,q ≠ w.heap.size + 1 → W.heap[q]? = wr.heap[q]?) (hz:wr.heap.size ≤ W.heap.size) (hb:Below w.heap.size w W)=>show LockR t xs w (.returned (.tuple #[.agg (drC 1 t (.slice A5 i c5) (.slice none 0 0) (.slice A6 j c6)),.int .i64 0])) W from by
          have hzk:=HK.out.1
          have hs3:=HS8.out.below HB10.out
          refine ⟨_,by rw [HLK.out],hb,fun h=>absurd HLK.out h,fun _=>⟨sc,_,_,Qs,rfl,HN4.out,by rw [HQ.out,(lk_own HNK.out).1],by rw [HFN.out,HFL.out,HPL.out],?_,fun y hy=>?_,fun q hq=>?_,?_⟩⟩
          ·exact ((HK.out.sli hs3.sli (fun q hq=>by have:=hq.1; omega)).keep fun q hq=>hW q hq.2).more fun q hq=>by have:=hq.1; omega
          ·exact ((HK.out.sli (hs3.par y hy) (fun q hq=>by have:=hq.1; omega)).keep fun q hq=>hW q hq.2).more fun q hq=>by have:=hq.1; omega
          ·exact ((HK.out.sli (HQR.out q hq) (fun q hq=>⟨hq.2,by have:=hq.1; omega⟩)).keep fun q hq=>hW q (by have:=hq.1; omega)).more fun q hq=>by have:=hq.2; omega
          ·have ho:=HO.out.own
           rw [HFN.out,HPL.out]
           exact ((ho.sliF (enc:=lfC) (hn:=fun _=>rfl) (F:=fun q=>w.heap.size ≤ q ∧ q < wr.heap.size ∧ q ≠ w.heap.size + 1) (fun g hg=>⟨(ho.block g hg).1,(ho.block g hg).2,fun e=>(HO.out.prv (w.heap.size + 1,drZ,34) (by simp)).2.2 (by rw [hg,e])⟩)).keep fun q hq=>hW q hq.2.2).more fun q hq=>by have:=hq.2; omega)
         clear hlk HO HK
         go_wp2
         refine ⟨rfl,.tuple #[.agg (drC 1 t (.slice A5 i c5) (.slice none 0 0) (.slice A6 j c6)),.int .i64 0],(by rw [results_cell_tmp rfl]; go_simp; rfl),?_⟩
         refine HEND.out _ (fun q hq=>?_) ?_ ?_
         ·simp only [Below.heap_setCell _ ⟨w.heap.size + 1,_,none⟩ _ q hq]
         ·simp
         ·repeat (first | with_reducible exact HBW.out | with_reducible refine Below.drew ?_ | with_reducible refine Below.setCell ?_ (by dsimp only; omega) _)
end
section
open Go.RowKit Go.Sort
def lfsP (fs:List ByteArray) (ps:List (List ByteArray)):List (ByteArray × Int × ByteArray × List ByteArray):=(List.range ps.length).map fun i=>(itN i,1,(fs[i]?).getD ⟨#[]⟩,(ps[i]?).getD [])
def lvE (fs:List ByteArray) (Ps:List (List ByteArray × Value)):List LfE:=(List.range Ps.length).map fun i=>((itN i,1,(fs[i]?).getD ⟨#[]⟩,((Ps[i]?).map (·.1)).getD []),((Ps[i]?).map (·.2)).getD (.slice none 0 0))
theorem lvs_get (fs:List ByteArray) (Ps:List (List ByteArray × Value)):∀ (k i:Nat),i < k → (lvs fs Ps k)[i]? = some (itN i,1,(fs[i]?).getD ⟨#[]⟩,((Ps[i]?).map (·.2)).getD (.slice none 0 0))
 | 0,i,h=>by omega
 | k + 1,i,h=>by
  rw [lvs]
  by_cases hi:i < k
  ·rw [List.getElem?_append_left (by rw [lvs_len]; exact hi)]
   exact lvs_get fs Ps k i hi
  ·have:i = k:=by omega
   subst this
   rw [List.getElem?_append_right (by rw [lvs_len]; exact Nat.le_refl _),lvs_len,Nat.sub_self]
   rfl
theorem lvE_fst (fs:List ByteArray) (Ps:List (List ByteArray × Value)):(lvE fs Ps).map (·.1) = lfsP fs (Ps.map (·.1)):=by
 unfold lvE lfsP
 rw [List.map_map,List.length_map]
 apply List.map_congr_left
 intro i _
 show (itN i,(1:Int),_,_) = _
 rw [List.getElem?_map]
structure DrW (w:World) (F:Nat → Prop) (t:ByteArray) (dn:Int) (xs:List Scene) (lf:List (ByteArray × Int × ByteArray × List ByteArray)) (d:Value):Prop where
 ex:∃ (sc:List (Scene × Value)) (fl:List LfE) (A1 A2:Option Addr) (n1 c1 n2 c2:Nat),d = .agg (drC dn t (.slice A1 n1 c1) (.slice none 0 0) (.slice A2 n2 c2)) ∧ sc.map (·.1) = xs ∧ fl.map (·.1) = lf ∧ Sc2 w F sc (.slice A1 n1 c1) ∧ LfW w F fl (.slice A2 n2 c2)
theorem DrW.below {w w':World} {F:Nat → Prop} {t:ByteArray} {dn:Int} {xs:List Scene} {lf:List (ByteArray × Int × ByteArray × List ByteArray)} {d:Value} (h:DrW w F t dn xs lf d) (hb:Below w.heap.size w w'):DrW w' F t dn xs lf d:=by
 obtain ⟨sc,fl,A1,A2,n1,c1,n2,c2,e,h1,h2,h3,h4⟩:=h.ex
 exact ⟨sc,fl,A1,A2,n1,c1,n2,c2,e,h1,h2,h3.below hb,h4.below hb⟩
theorem DrW.more {w:World} {F G:Nat → Prop} {t:ByteArray} {dn:Int} {xs:List Scene} {lf:List (ByteArray × Int × ByteArray × List ByteArray)} {d:Value} (h:DrW w F t dn xs lf d) (hm:∀ q,F q → G q) (hG:∀ q,G q → q < w.heap.size):DrW w G t dn xs lf d:=by
 obtain ⟨sc,fl,A1,A2,n1,c1,n2,c2,e,h1,h2,h3,h4⟩:=h.ex
 exact ⟨sc,fl,A1,A2,n1,c1,n2,c2,e,h1,h2,⟨h3.sli.more hm,fun y hy=>(h3.par y hy).more hm,hG⟩,⟨h4.sli.more hm,fun y hy=>(h4.ln y hy).more hm,hG⟩⟩
theorem drZ_w (w:World) (F:Nat → Prop) (hF:∀ q,F q → q < w.heap.size):DrW w F ⟨#[]⟩ 0 [] [] (.agg drZ):=
 ⟨[],[],none,none,0,0,0,0,rfl,rfl,rfl,⟨Sli.nil_,(fun y hy=>by cases hy),hF⟩,⟨Sli.nil_,(fun y hy=>by cases hy),hF⟩⟩
def lkT (t:ByteArray) (xs:List Scene):ByteArray:=if lockE ⟨t,xs⟩ = 0 then t else ⟨#[]⟩
def lkN (t:ByteArray) (xs:List Scene):Int:=if lockE ⟨t,xs⟩ = 0 then 1 else 0
def lkX (t:ByteArray) (xs:List Scene):List Scene:=if lockE ⟨t,xs⟩ = 0 then nbS xs else []
def lkL (t:ByteArray) (xs:List Scene):List (ByteArray × Int × ByteArray × List ByteArray):=if lockE ⟨t,xs⟩ = 0 then lfsP (lkFr (nbS xs)) (lkPg (nbS xs)) else []
theorem lockR_w {t:ByteArray} {xs:List Scene} {w w':World} {e:Ending} (h:LockR t xs w e w'):∃ d,e = .returned (.tuple #[d,.int .i64 (lockE ⟨t,xs⟩)]) ∧ Below w.heap.size w w' ∧ DrW w' (fun q=>q < w'.heap.size) (lkT t xs) (lkN t xs) (lkX t xs) (lkL t xs) d:=by
 obtain ⟨d,rfl,hb,h0,h1⟩:=h
 refine ⟨d,rfl,hb,?_⟩
 unfold lkT lkN lkX lkL
 by_cases he:lockE ⟨t,xs⟩ = 0
 ·rw [if_pos he,if_pos he,if_pos he,if_pos he]
  obtain ⟨sc,vS,lv,Ps,rfl,hsc,hPs,hfl,q1,q2,q3,q4⟩:=h1 he
  obtain ⟨A1,c1,rfl,_,_⟩:=q1.form
  obtain ⟨A2,c2,rfl,_,_⟩:=q4.form
  refine ⟨sc,lvE (lkFr (nbS xs)) Ps,A1,A2,_,c1,_,c2,rfl,hsc,by rw [lvE_fst,hPs],⟨q1,q2,fun q hq=>hq⟩,⟨?_,fun y hy=>?_,fun q hq=>hq⟩⟩
  ·refine Sli.recode q4 (by rw [lvs_len]; unfold lvE; rw [List.length_map,List.length_range]) fun i x x' hx hx'=>?_
   have hi:i < Ps.length:=by have:=(List.getElem?_eq_some_iff.1 hx).1; rwa [lvs_len] at this
   rw [lvs_get _ _ _ _ hi] at hx
   unfold lvE at hx'
   rw [List.getElem?_map,List.getElem?_range hi] at hx'
   cases hx
   cases hx'
   rfl
  ·unfold lvE at hy
   obtain ⟨i,hi,rfl⟩:=List.mem_map.1 hy
   have hi:=List.mem_range.1 hi
   dsimp only
   rw [List.getElem?_eq_getElem hi]
   exact q3 _ (List.getElem_mem hi)
 ·rw [if_neg he,if_neg he,if_neg he,if_neg he,h0 he]
  exact drZ_w _ _ fun q hq=>hq
theorem lockP_w {t:ByteArray} {xs:List Scene} {w w':World} {e:Ending} (h:LockP t xs w e w'):∃ d,e = .returned (.tuple #[d,.int .i64 (lockE ⟨t,xs⟩)]) ∧ Below w.heap.size w w' ∧ DrW w' (fun q=>q < w'.heap.size) (lkT t xs) (lkN t xs) (lkX t xs) (lkL t xs) d:=by
 obtain ⟨d,rfl,hb,h0,h1⟩:=h
 refine lockR_w ⟨d,rfl,hb,h0,fun he=>?_⟩
 obtain ⟨sc,vS,lv,Ps,h2,hsc,hPs,hfl,q1,q2,q3,q4⟩:=h1 he
 exact ⟨sc,vS,lv,Ps,h2,hsc,hPs,hfl,q1.more fun q hq=>hq.2,fun y hy=>(q2 y hy).more fun q hq=>hq.2,fun q hq=>(q3 q hq).more fun q hq=>hq.2,q4.more fun q hq=>hq.2⟩
theorem sameDr_c {F G:Nat → Prop} {t:ByteArray} {dn:Int} {xs:List Scene} {lf:List (ByteArray × Int × ByteArray × List ByteArray)} {a b:Value} (w:World) (h1:DrW w F t dn xs lf a) (h2:DrW w G t dn xs lf b) (hF:∀ q,F q → q < w.heap.size) (hG:∀ q,G q → q < w.heap.size) :
  Calls Tryz.prog 10 #[a,b] w fun e w'=>e = .returned (.bool true) ∧ Below w.heap.size w w':=by
 obtain ⟨sc,fl,A1,A2,n1,c1,n2,c2,rfl,q1,q2,q3,q4⟩:=(h1.more (G:=fun q=>q < w.heap.size) hF fun q hq=>hq).ex
 obtain ⟨sd,fm,B1,B2,m1,d1,m2,d2,rfl,p1,p2,p3,p4⟩:=(h2.more (G:=fun q=>q < w.heap.size) hG fun q hq=>hq).ex
 exact SameDrafts_c dn t sc sd fl fm _ _ _ _ w q3 p3 (q1.trans p1.symm) q4 p4 (q2.trans p2.symm)
theorem DrW.cells {w:World} {F:Nat → Prop} {t:ByteArray} {dn:Int} {xs:List Scene} {lf:List (ByteArray × Int × ByteArray × List ByteArray)} {d:Value} (h:DrW w F t dn xs lf d):∃ (A1 A2:Option Addr) (n1 c1 n2 c2:Nat),d = .agg (drC dn t (.slice A1 n1 c1) (.slice none 0 0) (.slice A2 n2 c2)):=by
 obtain ⟨_,_,A1,A2,n1,c1,n2,c2,e,_⟩:=h.ex
 exact ⟨A1,A2,n1,c1,n2,c2,e⟩
end
end Go.Proofs.YtaoobkgepcikiaaGreatDoor
