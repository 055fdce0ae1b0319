/- Texts packed: RtT, LnT, PgS, RlB, ScW, WdX, FndW, FdS, FdW, FdX, ScZ, BkW, BkX, BkY, BkZ, NmB, NcD, NcE, NcF, NcG, NbS, RbW. -/
import Derived.Test.YtaoobkgepcikiaaGreatDoorSc08
import Derived.Test.YtaoobkgepcikiaaGreatDoorSc28
import Derived.Test.YtaoobkgepcikiaaGreatDoorSc26
import Derived.Test.YtaoobkgepcikiaaGreatDoorSc02
import Derived.Test.YtaoobkgepcikiaaGreatDoorSc01
import Derived.Test.YtaoobkgepcikiaaGreatDoorSc16
import Derived.Deep.DeepCutAuto
import Derived.Test.YtaoobkgepcikiaaGreatDoorSc06
import Derived.Test.YtaoobkgepcikiaaGreatDoorSc14
import Derived.Test.YtaoobkgepcikiaaGreatDoorSc18
import Derived.Test.YtaoobkgepcikiaaGreatDoorSc24
import Derived.Test.YtaoobkgepcikiaaGreatDoorSc27
import Derived.Test.YtaoobkgepcikiaaGreatDoorSc13
import Derived.Test.YtaoobkgepcikiaaGreatDoorSc12
import Derived.Test.YtaoobkgepcikiaaGreatDoorSc05
namespace Go.Proofs.YtaoobkgepcikiaaGreatDoor
set_option linter.unusedVariables false
section
open Go.RowKit
/-! Nothing in a line is a line feed. -/
/-! Line by line. -/
end
section
open Go.RowKit
def prL (s:ByteArray):Prop:=∀ x ∈ s.data.toList,prB x = true
theorem app_pr {a b:ByteArray} (ha:prL a) (hb:prL b):prL (a ++ b):=fun x hx=>by
 rw [show (a ++ b).data.toList = a.data.toList ++ b.data.toList by simp] at hx
 rcases List.mem_append.1 hx with hx | hx
 ·exact ha x hx
 ·exact hb x hx
theorem placeS_pr:∀ q:Nat,prL (placeS q)
 | 0=>by show ∀ x ∈ _,_; decide
 | 1=>by show ∀ x ∈ _,_; decide
 | 2=>by show ∀ x ∈ _,_; decide
 | 3=>by show ∀ x ∈ _,_; decide
 | q + 4=>by show ∀ x ∈ (⟨#[]⟩:ByteArray).data.toList,prB x = true; decide
theorem timeS_pr:∀ q:Nat,prL (timeS q)
 | 0=>by show ∀ x ∈ _,_; decide
 | 1=>by show ∀ x ∈ _,_; decide
 | 2=>by show ∀ x ∈ _,_; decide
 | 3=>by show ∀ x ∈ _,_; decide
 | 4=>by show ∀ x ∈ _,_; decide
 | 5=>by show ∀ x ∈ _,_; decide
 | q + 6=>by show ∀ x ∈ (⟨#[]⟩:ByteArray).data.toList,prB x = true; decide
theorem setB_pr {s:ByteArray} (h:setB s = true):prL s:=by
 unfold setB proB at h
 simp only [Bool.and_eq_true] at h
 exact plain_pr h.1.1.1.2
theorem numB_pr {s:ByteArray} (h:numB s = true):prL s:=fun x hx=>by
 rcases numB_bytes h x hx with h1 | h1
 ·simp [digB] at h1
  simp [prB]
  omega
 ·simp [capB] at h1
  simp [prB]
  omega
theorem head_pr {x:Scene} (h:okS x):prL (headS x):=by
 have h1:=app_pr (app_pr (app_pr (app_pr (placeS_pr x.place.toNat) (b:=⟨#[32]⟩) (by show ∀ x ∈ _,_; decide)) (setB_pr h.2.2.2.1)) (b:=⟨#[32,45,32]⟩) (by show ∀ x ∈ _,_; decide)) (timeS_pr x.time.toNat)
 unfold headS
 split
 ·exact h1
 ·rename_i h0
  exact app_pr (app_pr (numB_pr (h.1.resolve_left h0)) (b:=⟨#[32]⟩) (by show ∀ x ∈ _,_; decide)) h1
structure LnOk (x:Scene):Prop where
 ok:okS x
 pn:x.paras.length ≤ 4000
theorem parasN_le:∀ (l:List Scene) (x:Scene),x ∈ l → x.paras.length ≤ parasN l
 | y :: r,x,h=>by
  unfold parasN
  rw [List.map_cons,List.sum_cons]
  rcases List.mem_cons.1 h with rfl | h
  ·omega
  ·have:=parasN_le r x h
   unfold parasN at this
   omega
theorem LnOk.of {x:Script} (h:OkX x) {y:Scene} (hy:y ∈ x.scenes):LnOk y:=⟨h.sc y hy,by have:=parasN_le x.scenes y hy; have:=h.pn; omega⟩
theorem LnOk.para {x:Scene} (h:LnOk x) {p:Para} (hp:p ∈ x.paras):p.text.size ≤ 2000 ∧ prL p.text ∧ 1 ≤ p.kind ∧ p.kind ≤ 5:=by
 have h1:=paraE_sz (parasE_ok x.paras 0 h.ok.2.2.2.2 p hp)
 exact ⟨h1.2.1,plain_pr h1.2.2.1,h1.2.2.2.1,h1.2.2.2.2⟩
theorem LnOk.head {x:Scene} (h:LnOk x):(headS x).size ≤ 1000 ∧ prL (headS x):=by
 refine ⟨?_,head_pr h.ok⟩
 have h1:=headS_sz x
 have h2:=setB_sz h.ok.2.2.2.1
 rcases h.ok.1 with h3 | h3
 ·rw [h3] at h1
  have:(⟨#[]⟩:ByteArray).size = 0:=rfl
  omega
 ·have:=numB_size h3; omega
theorem LnOk.sizes {x:Scene} (h:LnOk x):x.no.size ≤ 8 ∧ x.set.size ≤ 60:=by
 refine ⟨?_,(setB_sz h.ok.2.2.2.1).2⟩
 rcases h.ok.1 with h1 | h1
 ·rw [h1]; exact Nat.zero_le _
 ·exact numB_size h1
theorem par_pr {s:ByteArray} (h:prL s):prL (⟨#[40]⟩ ++ s ++ ⟨#[41]⟩):=app_pr (app_pr (by show ∀ x ∈ _,_; decide) h) (by show ∀ x ∈ _,_; decide)
theorem par_sz (s:ByteArray):(⟨#[40]⟩ ++ s ++ ⟨#[41]⟩:ByteArray).size = s.size + 2:=by
 rw [ByteArray.size_append,ByteArray.size_append]
 show 1 + s.size + 1 = _
 omega
theorem wrapT_len (s:ByteArray) {wd:Nat} (h0:0 < wd):(wrapT s wd).length ≤ s.size + 1:=by
 unfold wrapT
 rw [List.length_map]
 have h1:=wrapL_len h0 (wordsA s.data.toList [])
 have h2:=wordsA_sum s.data.toList []
 have h3:s.data.toList.length = s.size:=by simp
 simp only [List.length_nil] at h2
 omega
theorem chopA_wd {wd:Nat} (h0:0 < wd):∀ (n:Nat) (w:List UInt8),w.length ≤ n → ∀ x ∈ chopA wd w,x.length ≤ wd
 | 0,w,hl,x,hx=>by rw [chopA_done (by omega)] at hx; cases hx
 | n + 1,w,hl,x,hx=>by
  by_cases h:wd < w.length
  ·rw [chopA_more h0 h] at hx
   rcases List.mem_cons.1 hx with rfl | hx
   ·rw [List.length_take]; omega
   ·exact chopA_wd h0 n _ (by rw [List.length_drop]; omega) x hx
  ·rw [chopA_done h] at hx; cases hx
theorem wrapL_wd {wd:Nat} (h0:0 < wd) (ws:List (List UInt8)):∀ x ∈ (wrapL wd ws).all,x.length ≤ wd:=by
 have key:∀ (ws:List (List UInt8)) (st:Wst),(st.cur.length ≤ wd ∧ ∀ x ∈ st.out,x.length ≤ wd) → (ws.foldl (wrapW wd) st).cur.length ≤ wd ∧ ∀ x ∈ (ws.foldl (wrapW wd) st).out,x.length ≤ wd:=by
  intro ws
  induction ws with
  | nil=>intro st h; exact h
  | cons w r ih=>
   intro st h
   refine ih _ ?_
   unfold wrapW
   split
   ·exact h
   ·split
    ·rename_i h2
     have:=h2.2
     refine ⟨by simp; omega,h.2⟩
    ·refine ⟨chopZ_le h0 w.length w (Nat.le_refl _),fun x hx=>?_⟩
     rcases List.mem_append.1 hx with hx | hx
     ·rcases List.mem_append.1 hx with hx | hx
      ·exact h.2 x hx
      ·split at hx
       ·cases hx
       ·rw [List.mem_singleton.1 hx]; exact h.1
     ·exact chopA_wd h0 w.length w (Nat.le_refl _) x hx
 intro x hx
 have hk:=key ws ⟨[],[]⟩ ⟨Nat.zero_le _,fun x hx=>by cases hx⟩
 unfold Wst.all at hx
 rcases List.mem_append.1 hx with hx | hx
 ·exact hk.2 x hx
 ·split at hx
  ·cases hx
  ·rw [List.mem_singleton.1 hx]; exact hk.1
theorem wrapT_wd (s:ByteArray) {wd:Nat} (h0:0 < wd):∀ x ∈ wrapT s wd,x.size ≤ wd:=fun x hx=>by
 unfold wrapT at hx
 obtain ⟨y,hy,rfl⟩:=List.mem_map.1 hx
 rw [mkB_size]
 exact wrapL_wd h0 _ y hy
def BkBd (k:Nat) (l:List Blk):Prop:=l.length ≤ k + 1 ∧ ∀ b ∈ l,b.lines.length ≤ 3000 * (k + 1) ∧ b.kinds.length ≤ b.lines.length
theorem bkBd_push {k:Nat} {l:List Blk} {b:Blk} (h:BkBd k l) (h1:b.lines.length ≤ 3000) (h2:b.kinds.length ≤ b.lines.length):BkBd (k + 1) (l ++ [b]):=by
 refine ⟨by have:=h.1; simp; omega,fun c hc=>?_⟩
 rcases List.mem_append.1 hc with hc | hc
 ·have:=h.2 c hc; exact ⟨by omega,this.2⟩
 ·rw [List.mem_singleton.1 hc]; exact ⟨by omega,h2⟩
theorem bkBd_put {k i kd at_:Nat} {l:List Blk} {ls:List ByteArray} (h:BkBd k l) (h1:ls.length ≤ 3000):BkBd (k + 1) (l.modify i (fun b=>b.put kd at_ ls)):=by
 refine ⟨by have:=h.1; simp; omega,fun c hc=>?_⟩
 obtain ⟨j,hj⟩:=List.mem_iff_getElem?.1 hc
 rw [List.getElem?_modify] at hj
 cases hlj:l[j]? with
 | none=>rw [hlj] at hj; simp at hj
 | some y=>
  rw [hlj] at hj
  have hm:=h.2 y (List.mem_of_getElem? hlj)
  simp at hj
  by_cases e:i = j
  ·rw [if_pos e] at hj; subst hj
   unfold Blk.put
   simp
   omega
  ·rw [if_neg e] at hj; subst hj; exact ⟨by omega,hm.2⟩
theorem blkPara_bd {k:Nat} {l:List Blk} {p:Para} (h:BkBd k l) (hp:p.text.size ≤ 2000):BkBd (k + 1) (blkPara l p):=by
 have w60:=wrapT_len p.text (wd:=60) (by decide)
 have w35:=wrapT_len p.text (wd:=35) (by decide)
 have w30:=wrapT_len (⟨#[40]⟩ ++ p.text ++ ⟨#[41]⟩) (wd:=30) (by decide)
 rw [par_sz] at w30
 unfold blkPara
 split
 ·exact bkBd_push h (by show (wrapT p.text 60).length ≤ 3000; omega) (by show 0 ≤ _; omega)
 ·split
  ·exact bkBd_push h (by show 1 ≤ 3000; omega) (by show 0 ≤ 1; omega)
  ·split
   ·exact bkBd_push h (by show 1 ≤ 3000; omega) (by show 1 ≤ 1; omega)
   ·split
    ·exact bkBd_put h (by omega)
    ·split
     ·exact bkBd_put h (by omega)
     ·exact ⟨by have:=h.1; omega,fun b hb=>by have:=h.2 b hb; exact ⟨by omega,this.2⟩⟩
theorem blocks_bd {x:Scene} (h:LnOk x):∀ k,k ≤ x.paras.length → BkBd k ((x.paras.take k).foldl blkPara [blkWrap 0 (headS x)])
 | 0,_=>by
  refine ⟨by simp,fun b hb=>?_⟩
  simp at hb
  subst hb
  have h1:=wrapT_len (headS x) (wd:=60) (by decide)
  have h2:=h.head.1
  exact ⟨by show (wrapT (headS x) 60).length ≤ _; omega,by show 0 ≤ _; omega⟩
 | k + 1,hk=>by
  have ih:=blocks_bd h k (by omega)
  rw [List.take_succ_eq_append_getElem (by omega),List.foldl_append]
  exact blkPara_bd ih (h.para (List.getElem_mem _)).1
end
section
open Go.RowKit
theorem chop_sum {wd:Nat} (h0:0 < wd):∀ (n:Nat) (w:List UInt8),w.length ≤ n → (chopA wd w).length * wd + (chopZ wd w).length = w.length
 | 0,w,hl=>by rw [chopA_done (by omega),chopZ_done (by omega)]; simp
 | n + 1,w,hl=>by
  by_cases h:wd < w.length
  ·have ih:=chop_sum h0 n (w.drop wd) (by rw [List.length_drop]; omega)
   rw [chopA_more h0 h,chopZ_more h0 h,List.length_cons,Nat.add_mul,Nat.one_mul]
   rw [List.length_drop] at ih
   omega
  ·rw [chopA_done h,chopZ_done h]; simp
theorem wrapW_pot {wd:Nat} (h0:0 < wd) (st:Wst) (w:List UInt8) (S:Nat) (h:st.out.length * wd + st.cur.length ≤ 2 * S):(wrapW wd st w).out.length * wd + (wrapW wd st w).cur.length ≤ 2 * (S + (w.length + 1)):=by
 unfold wrapW
 split
 ·omega
 ·split
  ·show st.out.length * wd + (st.cur ++ 32 :: w).length ≤ _
   rw [List.length_append,List.length_cons]
   omega
  ·rename_i hc
   have hq:=chop_sum h0 w.length w (Nat.le_refl _)
   show (st.out ++ (if st.cur = [] then [] else [st.cur]) ++ chopA wd w).length * wd + (chopZ wd w).length ≤ _
   rw [List.length_append,List.length_append,Nat.add_mul,Nat.add_mul]
   by_cases hz:st.cur = []
   ·rw [if_pos hz]
    simp only [List.length_nil,Nat.zero_mul]
    omega
   ·rw [if_neg hz]
    simp only [List.length_cons,List.length_nil,Nat.zero_add,Nat.one_mul]
    have:¬ st.cur.length + 1 + w.length ≤ wd:=fun k=>hc ⟨hz,k⟩
    omega
theorem wrapL_pot {wd:Nat} (h0:0 < wd):∀ (ws:List (List UInt8)) (st:Wst) (S:Nat),st.out.length * wd + st.cur.length ≤ 2 * S → (ws.foldl (wrapW wd) st).out.length * wd + (ws.foldl (wrapW wd) st).cur.length ≤ 2 * (S + (ws.map fun w=>w.length + 1).sum)
 | [],_,_,h=>by simpa using h
 | w :: r,st,S,h=>by
  have:=wrapL_pot h0 r _ _ (wrapW_pot h0 st w S h)
  rw [List.foldl_cons,List.map_cons,List.sum_cons]
  rw [show S + (w.length + 1 + (r.map fun w=>w.length + 1).sum) = S + (w.length + 1) + (r.map fun w=>w.length + 1).sum by omega]
  exact this
theorem wrapT_few (s:ByteArray) {wd:Nat} (h0:0 < wd):((wrapT s wd).length - 1) * wd ≤ 2 * (s.size + 1):=by
 have h:=wrapL_pot h0 (wordsA s.data.toList []) ⟨[],[]⟩ 0 (by simp)
 have h2:=wordsA_sum s.data.toList []
 have h3:s.data.toList.length = s.size:=by simp
 simp only [List.length_nil] at h2
 unfold wrapT
 rw [List.length_map]
 change (wrapL wd (wordsA s.data.toList [])).out.length * wd + (wrapL wd (wordsA s.data.toList [])).cur.length ≤ _ at h
 generalize wrapL wd (wordsA s.data.toList []) = st at *
 have hle:(st.all.length - 1) ≤ st.out.length:=by
  unfold Wst.all
  rw [List.length_append]
  split <;> simp
 have:=Nat.mul_le_mul_right wd hle
 omega
def runOk (W:Nat):Nat → List Nat → Prop
 | _,[]=>True
 | c,x :: r=>if x = 2 then runOk W 0 r else c + 1 ≤ W ∧ runOk W (c + 1) r
def endRun:Nat → List Nat → Nat
 | c,[]=>c
 | c,x :: r=>if x = 2 then endRun 0 r else endRun (c + 1) r
theorem runOk_append {W:Nat}:∀ (a b:List Nat) (c:Nat),runOk W c a → runOk W (endRun c a) b → runOk W c (a ++ b)
 | [],_,_,_,h=>h
 | x :: r,b,c,ha,hb=>by
  rw [List.cons_append]
  unfold runOk at ha ⊢
  unfold endRun at hb
  split
  ·rename_i hx; rw [if_pos hx] at ha hb; exact runOk_append r b 0 ha hb
  ·rename_i hx; rw [if_neg hx] at ha hb; exact ⟨ha.1,runOk_append r b _ ha.2 hb⟩
theorem endRun_append:∀ (a b:List Nat) (c:Nat),endRun c (a ++ b) = endRun (endRun c a) b
 | [],_,_=>rfl
 | x :: r,b,c=>by
  show (if x = 2 then endRun 0 (r ++ b) else endRun (c + 1) (r ++ b)) = endRun (if x = 2 then endRun 0 r else endRun (c + 1) r) b
  by_cases hx:x = 2
  ·rw [if_pos hx,if_pos hx]; exact endRun_append r b 0
  ·rw [if_neg hx,if_neg hx]; exact endRun_append r b _
theorem endRun_rep2 (c:Nat):∀ (n:Nat),0 < n → endRun c (List.replicate n 2) = 0
 | 1,_=>by simp [endRun,List.replicate]
 | n + 2,_=>by rw [List.replicate_succ]; unfold endRun; rw [if_pos rfl]; exact endRun_rep2 0 (n + 1) (by omega)
theorem runOk_rep2 (W:Nat):∀ (n c:Nat),runOk W c (List.replicate n 2)
 | 0,_=>trivial
 | n + 1,c=>by rw [List.replicate_succ]; unfold runOk; rw [if_pos rfl]; exact runOk_rep2 W n 0
theorem endRun_rep1:∀ (n c:Nat),endRun c (List.replicate n 1) = c + n
 | 0,_=>rfl
 | n + 1,c=>by rw [List.replicate_succ]; unfold endRun; rw [if_neg (by decide),endRun_rep1 n]; omega
theorem runOk_rep1 (W:Nat):∀ (n c:Nat),c + n ≤ W → runOk W c (List.replicate n 1)
 | 0,_,_=>trivial
 | n + 1,c,h=>by rw [List.replicate_succ]; unfold runOk; rw [if_neg (by decide)]; exact ⟨by omega,runOk_rep1 W n _ (by omega)⟩
theorem runOk_first {W:Nat}:∀ (l:List Nat) (c:Nat),runOk W c l → c ≤ W → W - c < l.length → ∃ i,i ≤ W - c ∧ l.getD i 0 = 2
 | [],_,_,_,h=>by simp at h
 | x :: r,c,h,hc,hl=>by
  unfold runOk at h
  by_cases hx:x = 2
  ·exact ⟨0,Nat.zero_le _,by simp [hx]⟩
  ·rw [if_neg hx] at h
   obtain ⟨i,hi,he⟩:=runOk_first r (c + 1) h.2 h.1 (by simp at hl; omega)
   exact ⟨i + 1,by omega,by simpa using he⟩
theorem runOk_drop {W:Nat}:∀ (f:Nat) (l:List Nat) (c:Nat),runOk W c l → c ≤ W → ∃ c2,c2 ≤ W ∧ runOk W c2 (l.drop f)
 | 0,l,c,h,hc=>⟨c,hc,h⟩
 | f + 1,[],c,h,hc=>⟨c,hc,h⟩
 | f + 1,x :: r,c,h,hc=>by
  unfold runOk at h
  rw [List.drop_succ_cons]
  by_cases hx:x = 2
  ·rw [if_pos hx] at h; exact runOk_drop f r 0 h (Nat.zero_le _)
  ·rw [if_neg hx] at h; exact runOk_drop f r _ h.2 h.1
theorem runOk_at {W:Nat} {l:List Nat} (h:runOk W 0 l) (f:Nat) (hf:f + W < l.length):∃ i,f ≤ i ∧ i ≤ f + W ∧ l.getD i 0 = 2:=by
 obtain ⟨c2,hc,h2⟩:=runOk_drop f l 0 h (Nat.zero_le _)
 obtain ⟨i,hi,he⟩:=runOk_first _ c2 h2 hc (by rw [List.length_drop]; omega)
 refine ⟨f + i,by omega,by omega,?_⟩
 rw [List.getD_eq_getElem?_getD,List.getElem?_drop] at he
 rw [List.getD_eq_getElem?_getD]; exact he
def brk (b:Blk) (f k:Nat):Bool:=
 (decide (b.kind = 1) && decide (f + 2 ≤ k) && decide (k + 2 ≤ b.lines.length)) || (decide (b.kind = 3) && decide (b.kinds.getD (k - 1) 0 = 2) && decide ((if f = 0 then 3 else f + 2) ≤ k) && decide (k + 2 ≤ b.lines.length))
theorem brk_act {b:Blk} {f k:Nat} (h:b.kind = 1):brk b f k = true ↔ f + 2 ≤ k ∧ k + 2 ≤ b.lines.length:=by simp [brk,h]
theorem brk_grp {b:Blk} {f k:Nat} (h:b.kind = 3):brk b f k = true ↔ b.kinds.getD (k - 1) 0 = 2 ∧ (if f = 0 then 3 else f + 2) ≤ k ∧ k + 2 ≤ b.lines.length:=by simp [brk,h,and_assoc]
theorem brk_none {b:Blk} {f k:Nat} (h1:¬ b.kind = 1) (h3:¬ b.kind = 3):brk b f k = false:=by simp [brk,h1,h3]
def leastB (b:Blk):Nat:=
 if b.kind = 1 ∧ 3 < b.lines.length then 2
 else if b.kind = 3 ∧ 4 < b.lines.length then (match (List.range b.lines.length).find? fun k=>brk b 0 k with | some k=>k + 1 | none=>b.lines.length)
 else b.lines.length
def lastBrk (b:Blk) (f:Nat):Nat → Option Nat
 | 0=>none
 | m + 1=>if f < m + 1 ∧ brk b f (m + 1) = true then some (m + 1) else lastBrk b f m
theorem lastBrk_some {b:Blk} {f:Nat}:∀ {m j:Nat},lastBrk b f m = some j → f < j ∧ j ≤ m ∧ brk b f j = true ∧ ∀ i,j < i → i ≤ m → brk b f i = false
 | 0,_,h=>by cases h
 | m + 1,j,h=>by
  unfold lastBrk at h
  split at h
  ·rename_i hc
   injection h with h; subst h
   exact ⟨hc.1,Nat.le_refl _,hc.2,fun i h1 h2=>by omega⟩
  ·rename_i hc
   obtain ⟨h1,h2,h3,h4⟩:=lastBrk_some h
   refine ⟨h1,by omega,h3,fun i hi hm=>?_⟩
   by_cases e:i = m + 1
   ·subst e
    cases hb:brk b f (m + 1) with
    | false=>rfl
    | true=>exact absurd ⟨by omega,hb⟩ hc
   ·exact h4 i hi (by omega)
theorem lastBrk_ex {b:Blk} {f:Nat}:∀ {m j:Nat},f < j → j ≤ m → brk b f j = true → ∃ k,lastBrk b f m = some k
 | 0,j,h1,h2,_=>by omega
 | m + 1,j,h1,h2,h3=>by
  unfold lastBrk
  split
  ·exact ⟨_,rfl⟩
  ·rename_i hc
   refine lastBrk_ex h1 ?_ h3
   by_cases e:j = m + 1
   ·subst e; exact absurd ⟨h1,h3⟩ hc
   ·omega
def roomK (b:Blk) (f room:Nat):Nat:=f + room - (if b.kind = 3 then 1 else 0)
def stopB (b:Blk) (f room:Nat):Nat:=
 if b.lines.length - f ≤ room then b.lines.length
 else match lastBrk b f (min (roomK b f room) (b.lines.length - 1)) with
  | some j=>j
  | none=>max (min (roomK b f room) (b.lines.length - 1)) (f + 1)
structure GoodB (b:Blk):Prop where
 pos:1 ≤ b.lines.length
 few:¬ b.kind = 1 → ¬ b.kind = 3 → b.lines.length ≤ 50
 ks:b.kind = 3 → b.kinds.length = b.lines.length
 run:b.kind = 3 → runOk 15 0 b.kinds
def RoomOk (b:Blk) (f room:Nat):Prop:=(f = 0 ∧ (leastB b ≤ room ∨ room = 54)) ∨ (0 < f ∧ 53 ≤ room)
theorem brk_ex {b:Blk} (h:GoodB b) {f room:Nat} (hr:RoomOk b f room) (hn:¬ b.lines.length - f ≤ room):∃ j,f < j ∧ j ≤ roomK b f room ∧ j ≤ b.lines.length - 1 ∧ brk b f j = true:=by
 by_cases h1:b.kind = 1
 ·have hk:roomK b f room = f + room:=by unfold roomK; rw [if_neg (by omega)]; rfl
  refine ⟨f + 2,by omega,?_,?_,(brk_act h1).2 ⟨Nat.le_refl _,?_⟩⟩
  all_goals
   rcases hr with ⟨h0,hl | hl⟩ | ⟨h0,hl⟩
   ·by_cases h4:3 < b.lines.length
    ·rw [leastB,if_pos ⟨h1,h4⟩] at hl; omega
    ·rw [leastB,if_neg (fun k=>h4 k.2),if_neg (by omega)] at hl; omega
   ·omega
   ·omega
 by_cases h3:b.kind = 3
 ·have hk:roomK b f room = f + room - 1:=by unfold roomK; rw [if_pos h3]
  have hks:=h.ks h3
  rcases hr with ⟨h0,hl | hl⟩ | ⟨h0,hl⟩
  ·subst h0
   rw [leastB,if_neg (fun k=>h1 k.1)] at hl
   by_cases h4:4 < b.lines.length
   ·rw [if_pos ⟨h3,h4⟩] at hl
    split at hl
    ·rename_i k hf
     have hb:=List.find?_some hf
     have hb2:=(brk_grp h3).1 hb
     rw [if_pos rfl] at hb2
     exact ⟨k,by omega,by omega,by omega,hb⟩
    ·omega
   ·rw [if_neg (fun k=>h4 k.2)] at hl; omega
  ·subst h0
   obtain ⟨i,i1,i2,i3⟩:=runOk_at (h.run h3) 2 (by omega)
   exact ⟨i + 1,by omega,by omega,by omega,(brk_grp h3).2 ⟨by simpa using i3,by rw [if_pos rfl]; omega,by omega⟩⟩
  ·obtain ⟨i,i1,i2,i3⟩:=runOk_at (h.run h3) (f + 1) (by omega)
   exact ⟨i + 1,by omega,by omega,by omega,(brk_grp h3).2 ⟨by simpa using i3,by rw [if_neg (by omega)]; omega,by omega⟩⟩
 ·have hfew:=h.few h1 h3
  exfalso
  rcases hr with ⟨h0,hl | hl⟩ | ⟨h0,hl⟩
  ·rw [leastB,if_neg (fun k=>h1 k.1),if_neg (fun k=>h3 k.1)] at hl; omega
  ·omega
  ·omega
theorem stopB_brk {b:Blk} (h:GoodB b) {f room:Nat} (hr:RoomOk b f room) (hn:¬ b.lines.length - f ≤ room) :
  f < stopB b f room ∧ stopB b f room ≤ roomK b f room ∧ stopB b f room < b.lines.length ∧ brk b f (stopB b f room) = true ∧ ∀ i,stopB b f room < i → i ≤ roomK b f room → i < b.lines.length → brk b f i = false:=by
 obtain ⟨j,j1,j2,j3,j4⟩:=brk_ex h hr hn
 obtain ⟨k,hk⟩:=lastBrk_ex (m:=min (roomK b f room) (b.lines.length - 1)) j1 (by omega) j4
 have e:stopB b f room = k:=by unfold stopB; rw [if_neg hn,hk]
 rw [e]
 obtain ⟨a1,a2,a3,a4⟩:=lastBrk_some hk
 have:=h.pos
 exact ⟨a1,by omega,by omega,a3,fun i i1 i2 i3=>a4 i i1 (by omega)⟩
def moreS:ByteArray:=blanks 20 ++ ⟨#[40,77,79,82,69,41]⟩
def contS (nm:ByteArray):ByteArray:=blanks 20 ++ nm ++ ⟨#[32,40,67,79,78,84,39,68,41]⟩
def fillB (b:Blk):Nat → Nat → List (List ByteArray) → List ByteArray → List (List ByteArray) × List ByteArray
 | 0,_,P,pg=>(P,pg)
 | m + 1,f,P,pg=>
  if stopB b f (54 - pg.length) = b.lines.length then (P,pg ++ b.lines.drop f)
  else fillB b m (stopB b f (54 - pg.length)) (P ++ [pg ++ (b.lines.drop f).take (stopB b f (54 - pg.length) - f) ++ (if b.kind = 3 then [moreS] else [])]) (if b.kind = 3 then [contS b.name] else [])
def needB (b:Blk) (r:List Blk):Nat:=leastB b + (if b.kind = 0 then (match r with | []=>0 | y :: _=>if y.kind = 0 then 0 else 1 + leastB y) else 0)
def topB (b:Blk) (r:List Blk) (pg:List ByteArray):Bool:=pg.isEmpty || decide (54 < pg.length + b.gap + needB b r)
def layB:List Blk → List (List ByteArray) → List ByteArray → List Nat → List (List ByteArray) × List ByteArray × List Nat
 | [],P,pg,st=>(P,pg,st)
 | b :: r,P,pg,st=>
  let P1:=if topB b r pg = true ∧ ¬ pg = [] then P ++ [pg] else P
  let pg1:=if topB b r pg = true then [] else pg ++ List.replicate b.gap ⟨#[]⟩
  let q:=fillB b (b.lines.length + 1) 0 P1 pg1
  layB r q.1 q.2 (st ++ [P1.length])
end
section
open Go.RowKit Go.Sort
end
section
open Go.RowKit Go.Sort
end
section
open Go.RowKit
end
section
open Go.RowKit Go.Sort
end
section
open Go.RowKit
end
section
open Go.RowKit Go.Sort
end
section
open Go.RowKit Go.Sort
end
section
open Go.RowKit Go.Sort
theorem own_form {α:Type} {R:Rep α} {w:World} {b lo:Nat} {e:TypeId} {l:List α} {v:Value} (h:Own R w b lo e l v):∃ A n c,v = .slice A n c:=by
 rcases h.form with ⟨h,_⟩ | ⟨g,cap,h,_⟩
 ·exact ⟨_,_,_,h⟩
 ·exact ⟨_,_,_,h⟩
end
section
open Go.RowKit
def BlkP (k:Int) (l:List ByteArray) (w:World) (e:Ending) (w':World):Prop:=
 ∃ v,e = .returned (.agg #[.int .i64 k,v,.slice none 0 0,.string ⟨#[]⟩]) ∧ Below w.heap.size w w' ∧ Own strR w' w.heap.size w.heap.size 9 l v
theorem blkP_end {l:List ByteArray} {w w1:World} {A1:Option Addr} {n1 c1:Nat} {T:TypeId} {o:Obj} (hb1:Below (w.alloc o).heap.size (w.alloc o) w1) (hown1:Own strR w1 (w.alloc o).heap.size (w.alloc o).heap.size T l (.slice A1 n1 c1)) (u0 u1 u2 u3:Value) :
  Below w.heap.size w ((((w1.setCell ⟨w.heap.size,0,none⟩ u0).setCell ⟨w.heap.size,1,none⟩ u1).setCell ⟨w.heap.size,2,none⟩ u2).setCell ⟨w.heap.size,3,none⟩ u3) ∧
  Own strR ((((w1.setCell ⟨w.heap.size,0,none⟩ u0).setCell ⟨w.heap.size,1,none⟩ u1).setCell ⟨w.heap.size,2,none⟩ u2).setCell ⟨w.heap.size,3,none⟩ u3) w.heap.size w.heap.size T l (.slice A1 n1 c1):=by
 have hb:Below w.heap.size w w1:=((Below.refl _ w).alloc (Nat.le_refl _) o).trans (hb1.mono (by simp))
 have hlt:w.heap.size < (w.alloc o).heap.size:=by simp
 have hne:(Value.slice A1 n1 c1).ownBlock ≠ some w.heap.size:=fun e=>by have:=(hown1.block _ e).1; omega
 refine ⟨(((hb.setCell (p:=⟨w.heap.size,0,none⟩) (Nat.le_refl _) _).setCell (p:=⟨w.heap.size,1,none⟩) (Nat.le_refl _) _).setCell (p:=⟨w.heap.size,2,none⟩) (Nat.le_refl _) _).setCell (p:=⟨w.heap.size,3,none⟩) (Nat.le_refl _) _,?_⟩
 exact Own.less (n:=1) (enc:=fun x:ByteArray=>[.string x]) (hn:=fun _=>rfl) ((((hown1.setCell (p:=⟨w.heap.size,0,none⟩) _ hlt hne).setCell (p:=⟨w.heap.size,1,none⟩) _ hlt hne).setCell (p:=⟨w.heap.size,2,none⟩) _ hlt hne).setCell (p:=⟨w.heap.size,3,none⟩) _ hlt hne) (by omega)
theorem NewHeading_c (s:ByteArray) (w:World) (hs:s.size ≤ 1000000):Calls Tryz.prog 51 #[.string s] w (BlkP 0 (wrapT s 60) w):=by
 go_enter Tryz.func51,Tryz.ntmps51
 go_wp2_with fail
 refine (Wrap_c s 60 _ (by omega) (by omega) (by omega)).mono ?_
 rintro e w1 ⟨v1,rfl,hb1,hown1⟩
 have hzb1:=hb1.size
 obtain ⟨hc1,hf1⟩:=bcell hb1
 obtain ⟨A1,n1,c1,rfl⟩:=own_form hown1
 go_wp2
 refine ⟨rfl,.agg #[.int .i64 0,.slice A1 n1 c1,.slice none 0 0,.string ⟨#[]⟩],(by rw [results_cell1 rfl]; go_simp),?_⟩
 exact ⟨_,rfl,blkP_end hb1 hown1 _ _ _ _⟩
theorem NewAction_c (s:ByteArray) (w:World) (hs:s.size ≤ 1000000):Calls Tryz.prog 97 #[.string s] w (BlkP 1 (wrapT s 60) w):=by
 go_enter Tryz.func97,Tryz.ntmps97
 go_wp2_with fail
 refine (Wrap_c s 60 _ (by omega) (by omega) (by omega)).mono ?_
 rintro e w1 ⟨v1,rfl,hb1,hown1⟩
 have hzb1:=hb1.size
 obtain ⟨hc1,hf1⟩:=bcell hb1
 obtain ⟨A1,n1,c1,rfl⟩:=own_form hown1
 go_wp2
 refine ⟨rfl,.agg #[.int .i64 1,.slice A1 n1 c1,.slice none 0 0,.string ⟨#[]⟩],(by rw [results_cell1 rfl]; go_simp),?_⟩
 exact ⟨_,rfl,blkP_end hb1 hown1 _ _ _ _⟩
end
section
open Go.RowKit
theorem repeat_blanks (n:Nat):(⟨(Lib.repeatL (⟨#[32]⟩:ByteArray).data.toList n).toArray⟩:ByteArray) = blanks n:=by
 unfold blanks mkB
 congr 2
 induction n with
 | zero=>rfl
 | succ n ih=>rw [Lib.repeatL,ih]; rfl
theorem blanks_size (n:Nat):(blanks n).size = n:=by unfold blanks; rw [mkB_size,List.length_replicate]
theorem rep_c (n:Nat) (w:World) (hn:n ≤ 100000):Calls Tryz.prog 34 #[.string ⟨#[32]⟩,.int .i64 (n:Int)] w fun e w'=>e = .returned (.string (blanks n)) ∧ Below w.heap.size w w':=by
 rw [← repeat_blanks]
 exact Tryz.strings_Repeat ⟨#[32]⟩ n w (by omega) (by show 1 * n ≤ _; omega)
set_option maxHeartbeats 1000000 in
theorem NewTurn_c (t:ByteArray) (w:World) (hs:t.size ≤ 1000000):Calls Tryz.prog 98 #[.string t] w (BlkP 2 (blkTurn t).lines w):=by
 obtain ⟨tb,htb⟩:∃ tb,t ++ (⟨#[58]⟩:ByteArray) = tb:=⟨_,rfl⟩
 have h1:(⟨#[58]⟩:ByteArray).size = 1:=rfl
 have hsz:tb.size = t.size + 1:=by rw [← htb,ByteArray.size_append]; rfl
 have hx1:¬ 9223372036854775807 < t.size + (⟨#[58]⟩:ByteArray).size:=by omega
 have hx2:¬ 9223372036854775807 < t.size + 1:=by omega
 have HL:=Lib.hid (show (blkTurn t).lines = [indS (60 - tb.size) tb] by unfold blkTurn; rw [htb])
 have hw1:IntKind.i64.wrap (60 - (tb.size:Int)) = 60 - (tb.size:Int):=IntWalk.i64_in _ (by omega)
 have hm:max (60 - (tb.size:Int)) 0 = ((60 - tb.size:Nat):Int):=by omega
 obtain ⟨n,hn⟩:∃ n,60 - tb.size = n:=⟨_,rfl⟩
 rw [hn] at HL hm
 have hn60:n ≤ 60:=by omega
 have hx3:¬ 9223372036854775807 < (blanks n).size + tb.size:=by rw [blanks_size]; omega
 clear hsz hn
 go_enter Tryz.func98,Tryz.ntmps98
 go_wp2_with fail
 refine (rep_c n _ (by omega)).mono ?_
 rintro e w1 ⟨rfl,hb1⟩
 have hzb1:=hb1.size
 obtain ⟨hc1,hf1⟩:=bcell hb1
 have hlt:w.heap.size < w1.heap.size:=by have:=hb1.size; simp at this; omega
 have hne1:¬ w.heap.size = w1.heap.size:=by omega
 have hne2:¬ w1.heap.size = w.heap.size:=by omega
 go_wp2
 refine ⟨rfl,.agg #[.int .i64 2,.slice (some ⟨w1.heap.size,0,none⟩) 1 1,.slice none 0 0,.string ⟨#[]⟩],(by rw [results_cell1 rfl]; go_simp),?_⟩
 rw [HL.out]
 refine ⟨_,rfl,?_⟩
 obtain ⟨hB4,_⟩:=blkP_end (l:=[]) hb1 (Own.nil_ (e:=9)) (.int .i64 2) (.slice (some ⟨w1.heap.size,0,none⟩) 1 1) (.slice none 0 0) (.string ⟨#[]⟩)
 have hz4:((((w1.setCell ⟨w.heap.size,0,none⟩ (.int .i64 2)).setCell ⟨w.heap.size,1,none⟩ (.slice (some ⟨w1.heap.size,0,none⟩) 1 1)).setCell ⟨w.heap.size,2,none⟩ (.slice none 0 0)).setCell ⟨w.heap.size,3,none⟩ (.string ⟨#[]⟩)).heap.size = w1.heap.size:=by simp
 generalize (((w1.setCell ⟨w.heap.size,0,none⟩ (.int .i64 2)).setCell ⟨w.heap.size,1,none⟩ (.slice (some ⟨w1.heap.size,0,none⟩) 1 1)).setCell ⟨w.heap.size,2,none⟩ (.slice none 0 0)).setCell ⟨w.heap.size,3,none⟩ (.string ⟨#[]⟩) = W4 at hB4 hz4 ⊢
 have hl:=Own.lit1 W4 9 (blanks n ++ tb)
 rw [hz4] at hl
 exact ⟨hB4.alloc hB4.size _,Own.less (n:=1) (enc:=fun x:ByteArray=>[.string x]) (hn:=fun _=>rfl) hl (Nat.le_of_lt hlt)⟩
end
section
open Go.RowKit Go.Sort
abbrev BkT:=Blk × Value × Value
abbrev Pc:=Nat × Array Value × TypeId
def bkCs (x:BkT):List Value:=[.int .i64 (x.1.kind:Int),x.2.1,x.2.2,.string x.1.name]
def bkI (b:Bool) (x:BkT):List Value:=match b with
 | false=>x.1.lines.map .string
 | true=>x.1.kinds.map fun k:Nat=>Value.int .i64 (k:Int)
def bkV (b:Bool) (x:BkT):Value:=match b with
 | false=>x.2.1
 | true=>x.2.2
def bkE (b:Bool):TypeId:=match b with
 | false=>9
 | true=>3
abbrev BkN (w:World) (l:List BkT) (v:Value) (P:List Pc) (wx:World):Prop:=NGF 4 bkCs (fun _=>rfl) bkI bkV 99 bkE w l v P wx
theorem set_modify {α:Type} (l:List α) (k:Nat) (y:α) (f:α → α):(l.set k y).modify k f = l.set k (f y):=by
 apply List.ext_getElem?
 intro i
 rw [List.getElem?_modify,List.getElem?_set,List.getElem?_set]
 by_cases e:k = i
 ·subst e
  by_cases hk:k < l.length <;> simp [hk]
 ·rw [if_neg e,if_neg e]
  cases l[i]? <;> simp [e]
section
variable {w wx wy:World} {l:List BkT} {P:List Pc} {g0 M cap k g':Nat} {y:BkT} {u:Value}
theorem BkN.line {L':List ByteArray} (h:BkN w (l.set k y) (.slice (some ⟨g0,0,none⟩) M cap) P wx) (hk:k < l.length) (hown:Own valR wy w.heap.size w.heap.size 9 (L'.map .string) u) (hg:wx.grownBy wy y.2.1.ownBlock) (hv:u.ownBlock = some g') (hat:y.2.1.ownBlock = some g' ∨ wx.heap.size ≤ g') :
  BkN w (l.set k ({ y.1 with lines:=L' },u,y.2.2)) (.slice (some ⟨g0,0,none⟩) M cap) P (wy.setCell ⟨g0,k * 4 + 1,none⟩ u):=by
 have hk2:k < (l.set k y).length:=by rw [List.length_set]; exact hk
 have he:(l.set k y)[k] = y:=List.getElem_set_self (by rw [List.length_set]; exact hk)
 have h2:=NG.inner (b:=false) (k:=k) (j:=1) h hk2 hown (by rw [he]; exact hg) hv (by rw [he]; exact hat) (fun x=>({ x.1 with lines:=L' },u,x.2.2)) (fun x=>rfl) (by decide) rfl rfl (fun c hc=>by
  cases c with
  | false=>exact absurd rfl hc
  | true=>exact ⟨rfl,rfl⟩)
 rw [set_modify] at h2
 exact h2
theorem BkN.kind {K':List Nat} (h:BkN w (l.set k y) (.slice (some ⟨g0,0,none⟩) M cap) P wx) (hk:k < l.length) (hown:Own valR wy w.heap.size w.heap.size 3 (K'.map fun k:Nat=>Value.int .i64 (k:Int)) u) (hg:wx.grownBy wy y.2.2.ownBlock) (hv:u.ownBlock = some g') (hat:y.2.2.ownBlock = some g' ∨ wx.heap.size ≤ g') :
  BkN w (l.set k ({ y.1 with kinds:=K' },y.2.1,u)) (.slice (some ⟨g0,0,none⟩) M cap) P (wy.setCell ⟨g0,k * 4 + 2,none⟩ u):=by
 have hk2:k < (l.set k y).length:=by rw [List.length_set]; exact hk
 have he:(l.set k y)[k] = y:=List.getElem_set_self (by rw [List.length_set]; exact hk)
 have h2:=NG.inner (b:=true) (k:=k) (j:=2) h hk2 hown (by rw [he]; exact hg) hv (by rw [he]; exact hat) (fun x=>({ x.1 with kinds:=K' },x.2.1,u)) (fun x=>rfl) (by decide) rfl rfl (fun c hc=>by
  cases c with
  | true=>exact absurd rfl hc
  | false=>exact ⟨rfl,rfl⟩)
 rw [set_modify] at h2
 exact h2
end
def RowIn (P:List Pc) (A:Option Addr) (n:Nat) (ls:List ByteArray):Prop:=ls.length = n ∧ (n = 0 ∨ ∃ gl cs T,A = some ⟨gl,0,none⟩ ∧ (gl,cs,T) ∈ P ∧ ∀ (j:Nat) x,ls[j]? = some x → cs[j]? = some (.string x))
theorem keepRow {w w1 w2:World} {l:List BkT} {v v1:Value} {P:List Pc} {T:TypeId} {ls:List ByteArray} (h:BkN w l v P w1) (hb:Below w1.heap.size w1 w2) (ho:Own strR w2 w1.heap.size w1.heap.size T ls v1) :
  ∃ A n c P',v1 = .slice A n c ∧ n ≤ c ∧ c ≤ 9223372036854775807 ∧ BkN w l v P' w2 ∧ (∀ p ∈ P,p ∈ P') ∧ RowIn P' A n ls:=by
 have hf:=ho.form
 rcases Nat.eq_zero_or_pos ls.length with h0 | h0
 ·rcases hf with ⟨rfl,_⟩ | ⟨g,cap,rfl,h1,h2,h3,h4⟩
  ·exact ⟨none,0,0,P,rfl,Nat.le_refl _,by decide,h.below hb,fun _ hp=>hp,h0,.inl rfl⟩
  ·exact ⟨_,_,cap,P,rfl,h3,h4,h.below hb,fun _ hp=>hp,rfl,.inl h0⟩
 ·obtain ⟨g,cap,cs,rfl,hg,hw,hc⟩:=Own.prvS ho h0
  rcases hf with ⟨e,_⟩ | ⟨g',cap',e,_,_,h3,h4⟩
  ·cases e
  ·injection e with _ _ e
   subst e
   exact ⟨_,_,cap,(g,cs,T) :: P,rfl,h3,h4,NG.keep h hb hg hw,fun _ hp=>List.mem_cons_of_mem _ hp,rfl,.inr ⟨g,cs,T,rfl,by simp,hc⟩⟩
def BkO (w:World) (l:List BkT) (k:Nat) (b:Blk) (v:Value) (P:List Pc) (e:Ending) (w':World):Prop:=e = .returned (.tuple #[]) ∧ ∃ u1 u2,BkN w (l.set k (b,u1,u2)) v P w'
theorem put_nil (b:Blk) (kind at_:Nat):b.put kind at_ [] = b:=by unfold Blk.put; simp
theorem put_next {b:Blk} {kind at_:Nat} {ls:List ByteArray} {j:Nat} (hj:j < ls.length):b.put kind at_ (ls.take (j + 1)) = { b.put kind at_ (ls.take j) with lines:=(b.put kind at_ (ls.take j)).lines ++ [indS at_ ls[j]],kinds:=(b.put kind at_ (ls.take j)).kinds ++ [kind] }:=by
 unfold Blk.put
 dsimp only
 rw [List.take_succ_eq_append_getElem hj]
 simp only [List.map_append,List.append_assoc,List.map_cons,List.map_nil]
set_option maxRecDepth 100000 in
set_option maxHeartbeats 4000000 in
theorem bkAdd_c (w0 w:World) (l:List BkT) (b0:Blk) (g0 M cap k:Nat) (P:List Pc) (kind at_:Nat) (ls:List ByteArray) (A:Option Addr) (n c:Nat) (h:BkN w0 l (.slice (some ⟨g0,0,none⟩) M cap) P w) (hk:k < l.length) (hb0:l[k].1 = b0) (hkm:k < 1000000) (hr:RowIn P A n ls) (hnc:n ≤ c) (hc:c ≤ 9223372036854775807)
  (hn:n ≤ 3000) (hat:at_ ≤ 100) (hkd:kind ≤ 100) (hb1:b0.lines.length ≤ 100000000) (hb2:b0.kinds.length ≤ 100000000) (hsz:∀ x ∈ ls,x.size ≤ 1000000) :
  Calls Tryz.prog 155 #[.pointer (some ⟨g0,k * 4,none⟩),.int .i64 (kind:Int),.int .i64 (at_:Int),.slice A n c] w (BkO w0 l k (b0.put kind at_ ls) (.slice (some ⟨g0,0,none⟩) M cap) P):=by
 obtain ⟨i0,hi0,hz0,hz1,hz2⟩:=info_parts (show (Tryz.prog.info? 9).map (fun i=>(i.zero,i.size,i.bytes)) = some (some (.string ⟨#[]⟩),1,16) by kernel_rfl)
 obtain ⟨i1,hi1,hy0,hy1,hy2⟩:=info_parts (show (Tryz.prog.info? 3).map (fun i=>(i.zero,i.size,i.bytes)) = some (some (.int .i64 0),1,8) by kernel_rfl)
 obtain ⟨hln,hrow⟩:=hr
 have HRW:=Lib.hid hrow
 have HLN:=Lib.hid hln
 have HSZ:=Lib.hid hsz
 have HST:=Lib.hid (show BkN w0 (l.set k l[k]) (.slice (some ⟨g0,0,none⟩) M cap) P w by rw [List.set_getElem_self]; exact h)
 have HB1:=Lib.hid hb1
 have HB2:=Lib.hid hb2
 have HKL:=Lib.hid hk
 have HY0:=Lib.hid hb0
 clear h hrow hln hsz hb1 hb2 hb0
 go_enter Tryz.func155,Tryz.ntmps155
 go_wp2
 go_loopw [12] (fun i wr=>∃ (j:Nat) (y:BkT),j ≤ n ∧ i = .int .i64 j ∧ Hid (y.1 = b0.put kind at_ (ls.take j)) ∧ Hid (BkN w0 (l.set k y) (.slice (some ⟨g0,0,none⟩) M cap) P wr)) (fun i _=>n - (intOf i).toNat)
 case atStart=>exact ⟨0,l[k]'HKL.out,Nat.zero_le _,rfl,Lib.hid (by rw [List.take_zero,put_nil]; exact HY0.out),HST.out⟩
 case round=>
  clear HST HY0
  obtain ⟨j,⟨b,u1,u2⟩,hj,rfl,HY,HN⟩:=hrel
  by_cases hlt:j < n
  ·have hjl:j < ls.length:=by rw [HLN.out]; exact hlt
   obtain ⟨gl,cs,T,rfl,hmem,hcs⟩:=HRW.out.resolve_left (by omega)
   have c0:wr.cell? ⟨gl,j,none⟩ = some (.string ls[j]):=((HN.out.cell hmem).1 j).trans (hcs j _ (List.getElem?_eq_getElem hjl))
   have hs1:=HSZ.out _ (List.getElem_mem hjl)
   have HPN:=Lib.hid (put_next (b:=b0) (kind:=kind) (at_:=at_) hjl)
   generalize ls[j]'hjl = s at *
   have hy:b = b0.put kind at_ (ls.take j):=HY.out
   have HYY:=Lib.hid hy
   have hlb:b.lines.length ≤ 100003000:=by rw [hy]; unfold Blk.put; have:=HB1.out; simp; omega
   have hkb:b.kinds.length ≤ 100003000:=by rw [hy]; unfold Blk.put; have:=HB2.out; simp; omega
   have HLB:=Lib.hid hlb
   have HKB:=Lib.hid hkb
   have hrw:=HN.out.row false k (b,u1,u2) (List.getElem?_set_self HKL.out)
   have hrk:=HN.out.row true k (b,u1,u2) (List.getElem?_set_self HKL.out)
   have ho1:Own valR wr w0.heap.size w0.heap.size 9 (b.lines.map .string) u1:=hrw.1
   have ho2:Own valR wr w0.heap.size w0.heap.size 3 (b.kinds.map fun k:Nat=>Value.int .i64 (k:Int)) u2:=hrk.1
   have hne1:∀ g,u1.ownBlock = some g → (Value.slice (some ⟨g0,0,none⟩) M cap).ownBlock ≠ some g:=fun g hg=>(hrw.2 g hg).1
   have hne2:∀ g,u2.ownBlock = some g → (Value.slice (some ⟨g0,0,none⟩) M cap).ownBlock ≠ some g:=fun g hg=>(hrk.2 g hg).1
   obtain ⟨A1,n1,q1,rfl⟩:=own_form ho1
   obtain ⟨A2,n2,q2,rfl⟩:=own_form ho2
   have hks:k < (l.set k (b,Value.slice A1 n1 q1,Value.slice A2 n2 q2)).length:=by rw [List.length_set]; exact HKL.out
   have hget:(l.set k (b,Value.slice A1 n1 q1,Value.slice A2 n2 q2))[k] = (b,Value.slice A1 n1 q1,Value.slice A2 n2 q2):=List.getElem_set_self hks
   have HCA:=Lib.hid (fun (W:World) (l2:List BkT) (y:BkT) (hl2:l2 = l.set k y) (hW:BkN w0 l2 (.slice (some ⟨g0,0,none⟩) M cap) P W)=>show (W.cell? ⟨g0,k * 4 + 1,none⟩ = some y.2.1 ∧ W.frozen? ⟨g0,k * 4 + 1,none⟩ = false) ∧ (W.cell? ⟨g0,k * 4 + 2,none⟩ = some y.2.2 ∧ W.frozen? ⟨g0,k * 4 + 2,none⟩ = false) by
    subst hl2
    have hk3:k < (l.set k y).length:=by rw [List.length_set]; exact HKL.out
    have he3:(l.set k y)[k] = y:=List.getElem_set_self hk3
    have a1:=Own.cellAt hW.bo.own k hk3 1 (by decide)
    have a2:=Own.cellAt hW.bo.own k hk3 2 (by decide)
    rw [he3] at a1 a2
    exact ⟨a1,a2⟩)
   obtain ⟨⟨c1,_⟩,_⟩:=HCA.out wr _ (b,Value.slice A1 n1 q1,Value.slice A2 n2 q2) rfl HN.out
   have hg0:=(HN.out.bo.own.block g0 rfl)
   have HG0:=Lib.hid hg0
   have HO1:=Lib.hid ho1
   have HNE:=Lib.hid (And.intro hne1 hne2)
   have hx1:¬ 9223372036854775807 < (blanks at_).size + s.size:=by rw [blanks_size]; omega
   have hz0r:=HN.out.bo.size
   clear hrw hrk ho1 ho2 hne1 hne2 hks hget hmem hcs hjl hy hlb hkb
   go_upto_region 3 with (fail)
   obtain ⟨ι,ff,hne,hff,hfS⟩:=family (fun W=>W.cell? ⟨g0,k * 4 + 1,none⟩ = some (.slice A1 n1 q1)) wr c1
   have hneW:Nonempty World:=⟨w⟩
   have s0:=fun p=>hff p
   have HFS:=Lib.hid hfS
   have HC1:=Lib.hid c1
   clear hff hfS c1 c0
   refine wp_region_segs2 [6,9,10] [] [] [([0,1,2,3,5,7],[4],6),([8],[],9),([],[],10),([11,12],[],13)] (by kernel_rfl) (by kernel_rfl) (fun _ _ _ dd _ h=>by cases dd <;> exact h) (fun W=>∃ p:ι,W = ff p) (HFS.out _ HC1.out) ?_
   refine wpSegs2_step (by simp only [pick,List.getElem?_cons_succ,List.getElem?_cons_zero]; rfl) (by simp only [pick,List.getElem?_cons_succ,List.getElem?_cons_zero]; rfl) rfl (fun K0 hK0 L0 hL0=>?_)
   repeat (first | go_big_quiet_step (fail) | quiet_step (fail))
   refine wpQuiet_nil (hL0 _ ?_)
   repeat (first | go_big_quiet_step (fail) | quiet_step (fail))
   refine wpQuiet_nil ?_
   go_simp
   refine (rep_c at_ wr.drew (by omega)).mono ?_
   rintro e w7 ⟨rfl,hb7⟩
   have N7:=Lib.hid (HN.out.drew.below hb7)
   have O7:=Lib.hid (HO1.out.drew.below hb7)
   have hz7:=hb7.size
   have hz7':wr.heap.size ≤ w7.heap.size:=hz7
   have C7:=Lib.hid (show w7.cell? ⟨g0,k * 4 + 1,none⟩ = some (.slice A1 n1 q1) from (hb7.cell (p:=⟨g0,k * 4 + 1,none⟩) HG0.out.2).trans HC1.out)
   clear hb7 hz7 HN HO1 HC1
   refine hK0 (fun W=>∃ p:ι,W = ff p) _ _ (fun _ h=>h) (HFS.out _ C7.out) ?_
   refine wpSegs2_step (by simp only [pick,List.getElem?_cons_succ,List.getElem?_cons_zero]; rfl) (by simp only [pick,List.getElem?_cons_succ,List.getElem?_cons_zero]; rfl) rfl (fun K1 hK1 L1 hL1=>?_)
   repeat (first | go_big_quiet_step (fail) | quiet_step (fail))
   refine wpQuiet_nil (hL1 _ ?_)
   repeat (first | go_big_quiet_step (fail) | quiet_step (fail))
   refine wpQuiet_nil ?_
   go_simp
   have N8:=Lib.hid (N7.out.alloc (.cells #[.string (blanks at_ ++ s)] 9))
   have O8:=Lib.hid (O7.out.alloc (.cells #[.string (blanks at_ ++ s)] 9))
   have C8:=Lib.hid (show (w7.alloc (.cells #[.string (blanks at_ ++ s)] 9)).cell? ⟨g0,k * 4 + 1,none⟩ = some (.slice A1 n1 q1) from (World.cell?_alloc_lt w7 _ ⟨g0,k * 4 + 1,none⟩ (by have:=HG0.out.2; show g0 < _; omega)).trans C7.out)
   have HNEW:=Lib.hid (heap_alloc_new w7 (.cells #[.string (blanks at_ ++ s)] 9))
   refine hK1 (fun W=>∃ p:ι,W = ff p) _ _ (fun _ h=>h) (HFS.out _ C8.out) ?_
   have hz8:(w7.alloc (.cells #[.string (blanks at_ ++ s)] 9)).heap.size = w7.heap.size + 1:=by simp
   clear N7 O7 C7
   refine wpSegs2_step (by simp only [pick,List.getElem?_cons_succ,List.getElem?_cons_zero]; rfl) (by simp only [pick,List.getElem?_cons_succ,List.getElem?_cons_zero]; rfl) rfl (fun K2 hK2 L2 hL2=>?_)
   repeat (first | go_big_quiet_step (fail) | quiet_step (fail))
   refine wpQuiet_nil (hL2 _ ?_)
   repeat (first | go_big_quiet_step (fail) | quiet_step (fail))
   refine wpQuiet_nil ?_
   refine oper_push (R:=valR) rfl _ _ _ rfl w0.heap.size w0.heap.size 9 i0 _ 16 Tryz.underlying31 hi0 hz0 hz1 hz2 rfl (by decide) _ (.slice A1 n1 q1) (b.lines.map .string) rfl O8.out (.string (blanks at_ ++ s)) _ rfl (oneC rfl) w7.heap.size _ _ HNEW.out rfl (by have:=HLB.out; rw [List.length_map]; unfold maxLen; omega) (by have:=HLB.out; rw [List.length_map]; omega) (by omega) ?_
   intro g cap8 w8 hown8 hg8 hat8 hlt8
   have hk8:=hg8.block g0 (by have:=HG0.out.2; omega) (fun e=>HNE.out.1 g0 e.symm rfl)
   have f8:w8.frozen? ⟨g0,k * 4 + 1,none⟩ = false:=(World.frozen?_of_block hk8).trans (HCA.out _ _ _ rfl N8.out).1.2
   have c8:w8.cell? ⟨g0,k * 4 + 1,none⟩ = some (.slice A1 n1 q1):=(World.cell?_of_block hk8).trans C8.out
   have hN9:=BkN.line (y:=(b,Value.slice A1 n1 q1,Value.slice A2 n2 q2)) (L':=b.lines ++ [indS at_ s]) N8.out HKL.out (by rw [List.map_append]; exact hown8) hg8 rfl (hat8.imp id fun h=>Nat.le_of_eq h.symm)
   refine hK2 (fun W=>∃ p:ι,W = ff p) _ _ (fun _ h=>h) (HFS.out _ c8) ?_
   have N9:=Lib.hid hN9
   clear hown8 hg8 hat8 hlt8 hk8 hN9 N8 O8 C8 HNEW
   rw [List.length_map] at N9 ⊢
   refine wpSegs2_last (by simp only [pick,List.getElem?_cons_succ,List.getElem?_cons_zero]; rfl) (by simp only [pick,List.getElem?_cons_succ,List.getElem?_cons_zero]; rfl) rfl (by rfl) (fun K3 hK3 L3 hL3=>?_)
   repeat (first | go_big_quiet_step (fail) | quiet_step (fail))
   refine wpQuiet_nil (hL3 _ ?_)
   repeat (first | go_big_quiet_step (fail) | quiet_step (fail))
   refine wpQuiet_nil ?_
   go_simp
   refine hK3 _ _ (wpSegs2_end ?_)
   clear s0 f8 c8 hz8
   generalize w8.setCell ⟨g0,k * 4 + 1,none⟩ (.slice (some ⟨g,0,none⟩) (b.lines.length + 1) cap8) = w9 at *
   have hg9:=N9.out.bo.own.block g0 rfl
   have hr9:=N9.out.row true k _ (List.getElem?_set_self HKL.out)
   have O9:=Lib.hid (show Own valR w9 w0.heap.size w0.heap.size 3 (b.kinds.map fun k:Nat=>Value.int .i64 (k:Int)) (.slice A2 n2 q2) from hr9.1)
   obtain ⟨_,c9,f9⟩:=HCA.out w9 _ _ rfl N9.out
   have NA:=Lib.hid (N9.out.alloc (.cells #[.int .i64 (kind:Int)] 3))
   have OA:=Lib.hid (O9.out.alloc (.cells #[.int .i64 (kind:Int)] 3))
   have hz9:=N9.out.bo.size
   have HG9:=Lib.hid hg9
   clear hr9 hg9
   go_upto_region 5 with (at_builtin; (refine wpList_pushB (R:=valR) rfl _ _ _ rfl w0.heap.size w0.heap.size 3 i1 _ 8 Tryz.underlying22 hi1 hy0 hy1 hy2 rfl (by decide) _ (.slice A2 n2 q2) (b.kinds.map fun k:Nat=>Value.int .i64 (k:Int)) rfl OA.out (.int .i64 (kind:Int)) _ rfl (oneC rfl) w9.heap.size _ _ (heap_alloc_new w9 _) rfl (by have:=HKB.out; rw [List.length_map]; unfold maxLen; omega) (by have:=HKB.out; rw [List.length_map]; omega) (by simp; omega) ?_); intro gk capk wk hownk hgk hatk hltk; have hkk:=hgk.block g0 (by have:=HG9.out.2; simp; omega) (fun e=>HNE.out.2 g0 e.symm rfl); have fk:wk.frozen? ⟨g0,k * 4 + 2,none⟩ = false:=(World.frozen?_of_block hkk).trans (HCA.out _ _ _ rfl NA.out).2.2; have ck:wk.cell? ⟨g0,k * 4 + 2,none⟩ = some (.slice A2 n2 q2):=(World.cell?_of_block hkk).trans (HCA.out _ _ _ rfl NA.out).2.1)
   have NB:=Lib.hid (BkN.kind (K':=b.kinds ++ [kind]) NA.out HKL.out (by rw [List.map_append]; exact hownk) hgk rfl (hatk.imp id fun h=>Nat.le_of_eq h.symm))
   rw [List.length_map] at NB
   clear hownk hgk hatk hltk hkk NA OA N9 O9 fk ck c9 f9
   go_wp2
   go_roundw
   case rel=>
    refine ⟨j + 1,_,by omega,intNum,?_,NB.out⟩
    exact Lib.hid (by rw [HPN.out,← HYY.out])
   case measure=>simp [intOf]; omega
  ·have hjn:j = n:=by omega
   subst hjn
   have HYN:=Lib.hid (show b = b0.put kind at_ ls by
    have h:=HY.out
    rw [List.take_of_length_le (by rw [HLN.out]; exact Nat.le_refl _)] at h
    exact h)
   go_wp2
   go_end0
   exact ⟨rfl,u1,u2,by rw [← HYN.out]; exact HN.out⟩
end
section
open Go.RowKit Go.Sort
set_option maxHeartbeats 1000000 in
theorem AddAside_c (w0 w:World) (l:List BkT) (b0:Blk) (g0 M cap k:Nat) (P:List Pc) (t:ByteArray) (h:BkN w0 l (.slice (some ⟨g0,0,none⟩) M cap) P w) (hk:k < l.length) (hb0:l[k].1 = b0) (hkm:k < 1000000) (hb1:b0.lines.length ≤ 100000000) (hb2:b0.kinds.length ≤ 100000000) (ht:t.size ≤ 2000) :
  Calls Tryz.prog 100 #[.pointer (some ⟨g0,k * 4,none⟩),.string t] w (BkO w0 l k (b0.put 1 15 (wrapT (⟨#[40]⟩ ++ t ++ ⟨#[41]⟩) 30)) (.slice (some ⟨g0,0,none⟩) M cap) P):=by
 have HN:=Lib.hid h
 have HB:=Lib.hid (And.intro hb1 hb2)
 have hps:=par_sz t
 have e1:(⟨#[40]⟩:ByteArray).size = 1:=rfl
 have e2:(⟨#[41]⟩:ByteArray).size = 1:=rfl
 have e3:((⟨#[40]⟩:ByteArray) ++ t).size = 1 + t.size:=by rw [ByteArray.size_append]; rfl
 have hx1:¬ 9223372036854775807 < (⟨#[40]⟩:ByteArray).size + t.size:=by omega
 have hx2:¬ 9223372036854775807 < 1 + t.size:=by omega
 have hx3:¬ 9223372036854775807 < ((⟨#[40]⟩:ByteArray) ++ t).size + (⟨#[41]⟩:ByteArray).size:=by omega
 have hx4:¬ 9223372036854775807 < ((⟨#[40]⟩:ByteArray) ++ t).size + 1:=by omega
 have hx5:¬ 9223372036854775807 < 1 + t.size + 1:=by omega
 have hwl:=wrapT_len (⟨#[40]⟩ ++ t ++ ⟨#[41]⟩) (wd:=30) (by decide)
 have HWD:=Lib.hid (wrapT_wd (⟨#[40]⟩ ++ t ++ ⟨#[41]⟩) (wd:=30) (by decide))
 have HWR:=Lib.hid (fun (W:World)=>Wrap_c (⟨#[40]⟩ ++ t ++ ⟨#[41]⟩) 30 W (by omega) (by omega) (by omega))
 rw [hps] at hwl
 clear h hb1 hb2 e1 e2 e3 hps
 generalize hL:wrapT (⟨#[40]⟩ ++ t ++ ⟨#[41]⟩) 30 = L at *
 go_enter Tryz.func100,Tryz.ntmps100
 go_wp2_with fail
 refine (HWR.out _).mono ?_
 rintro e w1 ⟨v1,rfl,hb1,ho1⟩
 obtain ⟨A,n,c,P',rfl,hnc,hc,hN,hsub,hrow⟩:=keepRow HN.out hb1 ho1
 have hln:=hrow.1
 have HBA:=Lib.hid (bkAdd_c w0 w1 l b0 g0 M cap k P' 1 15 L A n c hN hk hb0 hkm hrow hnc hc (by omega) (by decide) (by decide) HB.out.1 HB.out.2 (fun x hx=>by have:=HWD.out x hx; omega))
 clear hb1 ho1 hN hrow hln hwl hx1 hx2 hx3 hx4 hx5
 go_wp2_with fail
 refine HBA.out.mono ?_
 rintro e w2 ⟨rfl,u1,u2,hN2⟩
 go_wp2
 go_end0
 exact ⟨rfl,u1,u2,hN2.less hsub⟩
set_option maxHeartbeats 1000000 in
theorem AddSpeech_c (w0 w:World) (l:List BkT) (b0:Blk) (g0 M cap k:Nat) (P:List Pc) (t:ByteArray) (h:BkN w0 l (.slice (some ⟨g0,0,none⟩) M cap) P w) (hk:k < l.length) (hb0:l[k].1 = b0) (hkm:k < 1000000) (hb1:b0.lines.length ≤ 100000000) (hb2:b0.kinds.length ≤ 100000000) (ht:t.size ≤ 2000) :
  Calls Tryz.prog 101 #[.pointer (some ⟨g0,k * 4,none⟩),.string t] w (BkO w0 l k (b0.put 2 10 (wrapT t 35)) (.slice (some ⟨g0,0,none⟩) M cap) P):=by
 have HN:=Lib.hid h
 have HB:=Lib.hid (And.intro hb1 hb2)
 have hwl:=wrapT_len t (wd:=35) (by decide)
 have HWD:=Lib.hid (wrapT_wd t (wd:=35) (by decide))
 have HWR:=Lib.hid (fun (W:World)=>Wrap_c t 35 W (by omega) (by omega) (by omega))
 clear h hb1 hb2
 generalize hL:wrapT t 35 = L at *
 go_enter Tryz.func101,Tryz.ntmps101
 go_wp2_with fail
 refine (HWR.out _).mono ?_
 rintro e w1 ⟨v1,rfl,hb1,ho1⟩
 obtain ⟨A,n,c,P',rfl,hnc,hc,hN,hsub,hrow⟩:=keepRow HN.out hb1 ho1
 have hln:=hrow.1
 have HBA:=Lib.hid (bkAdd_c w0 w1 l b0 g0 M cap k P' 2 10 L A n c hN hk hb0 hkm hrow hnc hc (by omega) (by decide) (by decide) HB.out.1 HB.out.2 (fun x hx=>by have:=HWD.out x hx; omega))
 clear hb1 ho1 hN hrow hln hwl
 go_wp2_with fail
 refine HBA.out.mono ?_
 rintro e w2 ⟨rfl,u1,u2,hN2⟩
 go_wp2
 go_end0
 exact ⟨rfl,u1,u2,hN2.less hsub⟩
theorem blkV_end {w W1 w5:World} {u1 u2:Value} {T1 T2:TypeId} {l1 l2:List Value} (hB1:Below w.heap.size w W1) (hz1:W1.heap.size = w.heap.size + 1) (hb:Below W1.heap.size W1 w5) (h1:Own valR w5 W1.heap.size W1.heap.size T1 l1 u1) (h2:Own valR w5 W1.heap.size W1.heap.size T2 l2 u2) (z0 z1 z2 z3:Value) :
  Below w.heap.size w ((((w5.setCell ⟨w.heap.size,0,none⟩ z0).setCell ⟨w.heap.size,1,none⟩ z1).setCell ⟨w.heap.size,2,none⟩ z2).setCell ⟨w.heap.size,3,none⟩ z3) ∧
  Own valR ((((w5.setCell ⟨w.heap.size,0,none⟩ z0).setCell ⟨w.heap.size,1,none⟩ z1).setCell ⟨w.heap.size,2,none⟩ z2).setCell ⟨w.heap.size,3,none⟩ z3) w.heap.size w.heap.size T1 l1 u1 ∧
  Own valR ((((w5.setCell ⟨w.heap.size,0,none⟩ z0).setCell ⟨w.heap.size,1,none⟩ z1).setCell ⟨w.heap.size,2,none⟩ z2).setCell ⟨w.heap.size,3,none⟩ z3) w.heap.size w.heap.size T2 l2 u2:=by
 have hbb:Below w.heap.size w w5:=hB1.trans (hb.mono (by omega))
 have key:∀ {T:TypeId} {l:List Value} {u:Value},Own valR w5 W1.heap.size W1.heap.size T l u → Own valR ((((w5.setCell ⟨w.heap.size,0,none⟩ z0).setCell ⟨w.heap.size,1,none⟩ z1).setCell ⟨w.heap.size,2,none⟩ z2).setCell ⟨w.heap.size,3,none⟩ z3) w.heap.size w.heap.size T l u:=fun {T l u} ho=>
  Own.less (enc:=fun v:Value=>[v]) (hn:=fun _=>rfl) (ho.keepF (enc:=fun v:Value=>[v]) (hn:=fun _=>rfl) (fun g hg=>by
   have hne:g ≠ w.heap.size:=by have:=(ho.block g hg).1; omega
   exact (Below.heap_setCell _ ⟨w.heap.size,3,none⟩ z3 g hne).trans ((Below.heap_setCell _ ⟨w.heap.size,2,none⟩ z2 g hne).trans ((Below.heap_setCell _ ⟨w.heap.size,1,none⟩ z1 g hne).trans (Below.heap_setCell w5 ⟨w.heap.size,0,none⟩ z0 g hne)))) (by simp [World.setCell])) (by omega)
 exact ⟨(((hbb.setCell (p:=⟨w.heap.size,0,none⟩) (Nat.le_refl _) _).setCell (p:=⟨w.heap.size,1,none⟩) (Nat.le_refl _) _).setCell (p:=⟨w.heap.size,2,none⟩) (Nat.le_refl _) _).setCell (p:=⟨w.heap.size,3,none⟩) (Nat.le_refl _) _,key h1,key h2⟩
def GrpV (t:ByteArray) (w:World) (e:Ending) (w':World):Prop:=
 ∃ v1 v2,e = .returned (.agg #[.int .i64 3,v1,v2,.string t]) ∧ Below w.heap.size w w' ∧ Own valR w' w.heap.size w.heap.size 9 ((blkGroup t).lines.map .string) v1 ∧ Own valR w' w.heap.size w.heap.size 3 ((blkGroup t).kinds.map fun k:Nat=>Value.int .i64 (k:Int)) v2 ∧ Dis v1 v2
set_option maxRecDepth 100000 in
set_option maxHeartbeats 2000000 in
theorem NewGroup_c (t:ByteArray) (w:World) (ht:t.size ≤ 2000):Calls Tryz.prog 99 #[.string t] w (GrpV t w):=by
 go_enter Tryz.func99,Tryz.ntmps99
 go_upto_region 2 with (fail)
 have hz1:(w.alloc (.cells #[.int .i64 0,.slice none 0 0,.slice none 0 0,.string ⟨#[]⟩] 99)).heap.size = w.heap.size + 1:=by simp
 have hlay:=heap_alloc_new w (.cells #[.int .i64 0,.slice none 0 0,.slice none 0 0,.string ⟨#[]⟩] 99)
 have hB1:=(Below.refl w.heap.size w).alloc (Nat.le_refl _) (.cells #[.int .i64 0,.slice none 0 0,.slice none 0 0,.string ⟨#[]⟩] 99)
 generalize w.alloc (.cells #[.int .i64 0,.slice none 0 0,.slice none 0 0,.string ⟨#[]⟩] 99) = W1 at *
 have hN1:BkN W1 [({ kind:=3,lines:=[],kinds:=[],name:=t },.slice none 0 0,.slice none 0 0)] (.slice (some ⟨W1.heap.size,0,none⟩) 1 1) [] (W1.alloc (.cells #[.int .i64 3,.slice none 0 0,.slice none 0 0,.string t] 99)):=
  NG.one (w:=W1) (wx:=W1) (x':=(({ kind:=3,lines:=[],kinds:=[],name:=t },.slice none 0 0,.slice none 0 0):BkT)) (Below.refl _ _) (fun b=>by cases b <;> exact Own.nil_) (fun b c h=>by
   cases b <;> cases c <;> exact Dis.nil_)
 have hN2:=hN1.new #[.string t] 9
 have hz2:(W1.alloc (.cells #[.int .i64 3,.slice none 0 0,.slice none 0 0,.string t] 99)).heap.size = W1.heap.size + 1:=by simp
 rw [hz2,hz1] at hN2
 have HADD:=Lib.hid (bkAdd_c W1 _ _ _ (w.heap.size + 1) 1 1 0 _ 0 20 [t] (some ⟨w.heap.size + 1 + 1,0,none⟩) 1 1 hN2 (by simp) rfl (by decide) ⟨rfl,.inr ⟨w.heap.size + 1 + 1,#[.string t],9,rfl,by simp,fun j x hx=>by
  cases j with
  | zero=>
   simp at hx
   subst hx
   rfl
  | succ j=>simp at hx⟩⟩ (Nat.le_refl _) (by decide) (by decide) (by decide) (by decide) (by simp) (by simp) (fun x hx=>by rw [List.mem_singleton.1 hx]; omega))
 have HL:=Lib.hid hlay
 have HB1:=Lib.hid hB1
 have HZ1:=Lib.hid hz1
 clear hN1 hN2 hz2 hlay hB1
 go_wp2_with fail
 refine HADD.out.mono ?_
 rintro e w5 ⟨rfl,u1,u2,hN5⟩
 have hr1:=(hN5.row false 0 _ rfl).1
 have hr2:=(hN5.row true 0 _ rfl).1
 have hd:=hN5.dis false true 0 0 _ _ rfl rfl (.inr (by decide))
 have ho1:Own valR w5 W1.heap.size W1.heap.size 9 ((blkGroup t).lines.map .string) u1:=hr1
 have ho2:Own valR w5 W1.heap.size W1.heap.size 3 ((blkGroup t).kinds.map fun k:Nat=>Value.int .i64 (k:Int)) u2:=hr2
 have hd2:Dis u1 u2:=hd
 have c0:w5.cell? ⟨w.heap.size + 1,0,none⟩ = some (.int .i64 3):=(Own.cellAt hN5.bo.own 0 (by simp) 0 (by decide)).1
 have c1:w5.cell? ⟨w.heap.size + 1,1,none⟩ = some u1:=(Own.cellAt hN5.bo.own 0 (by simp) 1 (by decide)).1
 have c2:w5.cell? ⟨w.heap.size + 1,2,none⟩ = some u2:=(Own.cellAt hN5.bo.own 0 (by simp) 2 (by decide)).1
 have c3:w5.cell? ⟨w.heap.size + 1,3,none⟩ = some (.string t):=(Own.cellAt hN5.bo.own 0 (by simp) 3 (by decide)).1
 have hbel:=hN5.bo.bel
 obtain ⟨A1,n1,q1,rfl⟩:=own_form ho1
 obtain ⟨A2,n2,q2,rfl⟩:=own_form ho2
 have hl5:w5.heap[w.heap.size]? = _:=(hbel.block w.heap.size (by omega)).trans HL.out
 obtain ⟨k1,k2⟩:=str_cells hl5
 have r0:w5.cell? ⟨w.heap.size,0,none⟩ = some (.int .i64 0):=k1 0
 have r1:w5.cell? ⟨w.heap.size,1,none⟩ = some (.slice none 0 0):=k1 1
 have r2:w5.cell? ⟨w.heap.size,2,none⟩ = some (.slice none 0 0):=k1 2
 have r3:w5.cell? ⟨w.heap.size,3,none⟩ = some (.string ⟨#[]⟩):=k1 3
 have f0:=k2 0
 have f1:=k2 1
 have f2:=k2 2
 have f3:=k2 3
 have HE:=Lib.hid (blkV_end HB1.out HZ1.out hbel ho1 ho2 (.int .i64 3) (.slice A1 n1 q1) (.slice A2 n2 q2) (.string t))
 have HD:=Lib.hid hd2
 clear hr1 hr2 hd ho1 ho2 hd2 hbel hl5 k1 k2 hN5
 go_wp2
 refine ⟨rfl,.agg #[.int .i64 3,.slice A1 n1 q1,.slice A2 n2 q2,.string t],(by rw [results_cell1 rfl]; go_simp),?_⟩
 exact ⟨_,_,rfl,HE.out.1,HE.out.2.1,HE.out.2.2,HD.out⟩
end
section
open Go.RowKit Go.Sort
def StrP (s:ByteArray) (w:World) (e:Ending) (w':World):Prop:=e = .returned (.string s) ∧ Below w.heap.size w w'
theorem repA0_c (w:World):Calls Tryz.prog 34 #[.string ⟨#[65]⟩,.int .i64 0] w (StrP ⟨#[]⟩ w):=by
 have h:=Tryz.strings_Repeat ⟨#[65]⟩ 0 w (by omega) (by show 1 * 0 ≤ _; omega)
 exact h
theorem low1_c (w:World):Calls Tryz.prog 188 #[.int .i64 1] w (StrP ⟨#[66]⟩ w):=by
 have HR:=Lib.hid (repA0_c w)
 go_enter Tryz.func188,Tryz.ntmps188
 go_wp2_with fail
 refine HR.out.mono ?_
 rintro e w1 ⟨rfl,hb⟩
 go_wp2
 go_ret
 exact ⟨rfl,hb⟩
theorem above1_c (w:World):Calls Tryz.prog 189 #[.string ⟨#[]⟩,.int .i64 1] w (StrP ⟨#[66]⟩ w):=by
 have HR:=Lib.hid (low1_c w)
 go_enter Tryz.func189,Tryz.ntmps189
 go_wp2_with fail
 refine HR.out.mono ?_
 rintro e w1 ⟨rfl,hb⟩
 go_wp2
 go_ret
 exact ⟨rfl,hb⟩
theorem par1_c (w:World) (hl:ErrsLaid w):Calls Tryz.prog 94 #[.string ⟨#[49]⟩] w (fun e w'=>e = .returned (.agg #[.int .i64 1,.string ⟨#[]⟩]) ∧ Below w.heap.size w w'):=
 (parse_c ⟨#[49]⟩ w (by decide) hl).mono fun e w' h=>by
  obtain ⟨h1,h2⟩:=h
  rw [show atoiV (numD ⟨#[49]⟩) = 1 by kernel_rfl,show numC ⟨#[49]⟩ = ⟨#[]⟩ by kernel_rfl] at h1
  exact ⟨h1,h2⟩
theorem itoaB (n:Nat) (s:ByteArray) (hn:n ≤ 99) (hs:(⟨(Lib.decDigits n).toArray⟩:ByteArray) = s) (w:World):Calls Tryz.prog 14 #[.int .i64 (n:Int)] w (StrP s w):=
 (Tryz.strconv_Itoa_small n (by omega) w).mono fun e w' h=>by
  obtain ⟨h1,h2⟩:=h
  exact ⟨by rw [h1,hs],by rw [h2]; exact Below.refl _ _⟩
set_option maxRecDepth 100000 in
set_option maxHeartbeats 2000000 in
theorem next0_c (w:World) (hl:ErrsLaid w):Calls Tryz.prog 123 #[.string ⟨#[49]⟩,.int .i64 0] w (StrP ⟨#[50]⟩ w):=by
 have G0:=Lib.hid (show PvG w [(w.heap.size,#[.int .i64 0,.string ⟨#[]⟩],145)] (w.alloc (.cells #[.int .i64 0,.string ⟨#[]⟩] 145)) from (BO.start w).new _ _)
 have HP:=Lib.hid (par1_c (w.alloc (.cells #[.int .i64 0,.string ⟨#[]⟩] 145)) (hl.below G0.out.bel (Nat.le_refl _)))
 have HI:=Lib.hid (fun W=>itoaB 2 ⟨#[50]⟩ (by decide) (by kernel_rfl) W)
 clear hl
 go_enter Tryz.func123,Tryz.ntmps123
 go_wp2_with fail
 refine HP.out.mono ?_
 rintro e w1 ⟨rfl,hb⟩
 have hG1:=G0.out.below hb
 obtain ⟨gx,fx⟩:=hG1.cell (p:=(w.heap.size,#[.int .i64 0,.string ⟨#[]⟩],145)) (by simp)
 have x0:w1.cell? ⟨w.heap.size,0,none⟩ = some (.int .i64 0):=gx 0
 have x1:w1.cell? ⟨w.heap.size,1,none⟩ = some (.string ⟨#[]⟩):=gx 1
 have f0:w1.frozen? ⟨w.heap.size,0,none⟩ = false:=fx 0
 have f1:w1.frozen? ⟨w.heap.size,1,none⟩ = false:=fx 1
 have G1:=Lib.hid hG1
 clear hb gx fx HP G0 hG1
 have hG2:=((((((G1.out.set (i:=0) (fun h=>h) (.int .i64 1) (by simp)).set (i:=1) (fun h=>h) (.string ⟨#[]⟩) (by simp)).set (i:=0) (fun h=>h) (.int .i64 2) (by simp)).set (i:=1) (fun h=>h) (.string ⟨#[]⟩) (by simp))))
 go_upto_region 16 with (fail)
 generalize hW:(((w1.setCell ⟨w.heap.size,0,none⟩ (.int .i64 1)).setCell ⟨w.heap.size,1,none⟩ (.string ⟨#[]⟩)).setCell ⟨w.heap.size,0,none⟩ (.int .i64 2)).setCell ⟨w.heap.size,1,none⟩ (.string ⟨#[]⟩) = w2 at *
 have G2:=Lib.hid (show PvG w [(w.heap.size,#[.int .i64 2,.string ⟨#[]⟩],145)] w2 from hG2)
 clear hG2 hW x0 x1 f0 f1
 obtain ⟨gx,fx⟩:=G2.out.cell (p:=(w.heap.size,#[.int .i64 2,.string ⟨#[]⟩],145)) (by simp)
 have hz2:=G2.out.plt (p:=(w.heap.size,#[.int .i64 2,.string ⟨#[]⟩],145)) (by simp)
 dsimp only at hz2
 have x0:w2.cell? ⟨w.heap.size,0,none⟩ = some (.int .i64 2):=gx 0
 have x1:w2.cell? ⟨w.heap.size,1,none⟩ = some (.string ⟨#[]⟩):=gx 1
 have s0:∀ (d:Nat) (os:Array Obj),(Sort.grow (redrawn w2 d) os).cell? ⟨w.heap.size,0,none⟩ = some (.int .i64 2):=fun d os=>((below_regrown w2 d os).cell (p:=⟨w.heap.size,0,none⟩) hz2).trans x0
 have s1:∀ (d:Nat) (os:Array Obj),(Sort.grow (redrawn w2 d) os).cell? ⟨w.heap.size,1,none⟩ = some (.string ⟨#[]⟩):=fun d os=>((below_regrown w2 d os).cell (p:=⟨w.heap.size,1,none⟩) hz2).trans x1
 clear gx fx
 refine wp_region_quiet_below (by kernel_rfl) (by kernel_rfl) ?_
 repeat (first | go_big_quiet_step ((go_at_call 14; exact Calls.regrown_of (HI.out _))) | quiet_step ((go_at_call 14; exact Calls.regrown_of (HI.out _))))
 refine wpQuiet_nil ?_
 intro wy hwy
 have hby:=below_of_regrown hwy
 clear hwy
 go_wp2
 go_ret
 exact ⟨rfl,G2.out.bel.trans (hby.mono G2.out.size)⟩
set_option maxRecDepth 100000 in
set_option maxHeartbeats 2000000 in
theorem next1_c (w:World) (hl:ErrsLaid w):Calls Tryz.prog 123 #[.string ⟨#[49]⟩,.int .i64 1] w (StrP ⟨#[49,66]⟩ w):=by
 have G0:=Lib.hid (show PvG w [(w.heap.size,#[.int .i64 0,.string ⟨#[]⟩],145)] (w.alloc (.cells #[.int .i64 0,.string ⟨#[]⟩] 145)) from (BO.start w).new _ _)
 have HP:=Lib.hid (par1_c (w.alloc (.cells #[.int .i64 0,.string ⟨#[]⟩] 145)) (hl.below G0.out.bel (Nat.le_refl _)))
 have HI:=Lib.hid (fun W=>itoaB 1 ⟨#[49]⟩ (by decide) (by kernel_rfl) W)
 have HA:=Lib.hid (fun W=>above1_c W)
 clear hl
 go_enter Tryz.func123,Tryz.ntmps123
 go_wp2_with fail
 refine HP.out.mono ?_
 rintro e w1 ⟨rfl,hb⟩
 have hG1:=G0.out.below hb
 obtain ⟨gx,fx⟩:=hG1.cell (p:=(w.heap.size,#[.int .i64 0,.string ⟨#[]⟩],145)) (by simp)
 have x0:w1.cell? ⟨w.heap.size,0,none⟩ = some (.int .i64 0):=gx 0
 have x1:w1.cell? ⟨w.heap.size,1,none⟩ = some (.string ⟨#[]⟩):=gx 1
 have f0:w1.frozen? ⟨w.heap.size,0,none⟩ = false:=fx 0
 have f1:w1.frozen? ⟨w.heap.size,1,none⟩ = false:=fx 1
 have G1:=Lib.hid hG1
 clear hb gx fx HP G0 hG1
 have hG2:=(G1.out.set (i:=0) (fun h=>h) (.int .i64 1) (by simp)).set (i:=1) (fun h=>h) (.string ⟨#[]⟩) (by simp)
 go_wp2_with fail
 refine (HA.out _).mono ?_
 rintro e w3 ⟨rfl,hb3⟩
 have hG3:=hG2.below hb3
 obtain ⟨gx,fx⟩:=hG3.cell (p:=(w.heap.size,#[.int .i64 1,.string ⟨#[]⟩],145)) (by simp)
 have y1:w3.cell? ⟨w.heap.size,1,none⟩ = some (.string ⟨#[]⟩):=gx 1
 have y0:w3.cell? ⟨w.heap.size,0,none⟩ = some (.int .i64 1):=gx 0
 have k1:w3.frozen? ⟨w.heap.size,1,none⟩ = false:=fx 1
 have hG4:=hG3.set (i:=1) (fun h=>h) (.string ⟨#[66]⟩) (by simp)
 have G3:=Lib.hid hG4
 clear hG2 hG3 hG4 hb3 gx fx x0 x1 f0 f1 HA
 go_upto_region 16 with (fail)
 generalize hW:w3.setCell ⟨w.heap.size,1,none⟩ (.string ⟨#[66]⟩) = w2 at *
 have G2:=Lib.hid (show PvG w [(w.heap.size,#[.int .i64 1,.string ⟨#[66]⟩],145)] w2 from G3.out)
 clear hW y0 y1 k1 G3
 obtain ⟨gx,fx⟩:=G2.out.cell (p:=(w.heap.size,#[.int .i64 1,.string ⟨#[66]⟩],145)) (by simp)
 have hz2:=G2.out.plt (p:=(w.heap.size,#[.int .i64 1,.string ⟨#[66]⟩],145)) (by simp)
 dsimp only at hz2
 have x0:w2.cell? ⟨w.heap.size,0,none⟩ = some (.int .i64 1):=gx 0
 have x1:w2.cell? ⟨w.heap.size,1,none⟩ = some (.string ⟨#[66]⟩):=gx 1
 have s0:∀ (d:Nat) (os:Array Obj),(Sort.grow (redrawn w2 d) os).cell? ⟨w.heap.size,0,none⟩ = some (.int .i64 1):=fun d os=>((below_regrown w2 d os).cell (p:=⟨w.heap.size,0,none⟩) hz2).trans x0
 have s1:∀ (d:Nat) (os:Array Obj),(Sort.grow (redrawn w2 d) os).cell? ⟨w.heap.size,1,none⟩ = some (.string ⟨#[66]⟩):=fun d os=>((below_regrown w2 d os).cell (p:=⟨w.heap.size,1,none⟩) hz2).trans x1
 clear gx fx
 refine wp_region_quiet_below (by kernel_rfl) (by kernel_rfl) ?_
 repeat (first | go_big_quiet_step ((go_at_call 14; exact Calls.regrown_of (HI.out _))) | quiet_step ((go_at_call 14; exact Calls.regrown_of (HI.out _))))
 refine wpQuiet_nil ?_
 intro wy hwy
 have hby:=below_of_regrown hwy
 clear hwy
 go_wp2
 go_ret
 exact ⟨rfl,G2.out.bel.trans (hby.mono G2.out.size)⟩
set_option maxRecDepth 100000 in
set_option maxHeartbeats 2000000 in
theorem between12_c (w:World) (hl:ErrsLaid w):Calls Tryz.prog 63 #[.string ⟨#[49]⟩,.string ⟨#[50]⟩] w (StrP ⟨#[49,66]⟩ w):=by
 have HL:=Lib.hid (fun (W:World) (hb:Below w.heap.size w W)=>hl.below hb (Nat.le_refl _))
 have HC0:=Lib.hid (show cmpN ⟨#[50]⟩ ⟨#[50]⟩ = 0 by kernel_rfl)
 have HC1:=Lib.hid (show cmpN ⟨#[49,66]⟩ ⟨#[50]⟩ = -1 by kernel_rfl)
 clear hl
 go_enter Tryz.func63,Tryz.ntmps63
 go_wp2
 go_loopw [7] (fun iv wr=>∃ k:Nat,k ≤ 1 ∧ iv = .int .i64 k ∧ Hid (Below w.heap.size w wr)) (fun iv _=>1 - (intOf iv).toNat)
 case atStart=>exact ⟨0,by decide,rfl,Below.refl _ _⟩
 case round=>
  obtain ⟨k,hk,rfl,HB⟩:=hrel
  have hk01:k = 0 ∨ k = 1:=by omega
  rcases hk01 with rfl | rfl
  ·go_wp2_with fail
   refine (next0_c wr (HL.out wr HB.out)).mono ?_
   rintro e w1 ⟨rfl,hb1⟩
   have HB1:=Lib.hid (HB.out.trans (hb1.mono HB.out.size))
   have HCM:=compare_c ⟨#[50]⟩ ⟨#[50]⟩ w1 (by decide) (by decide) (HL.out w1 HB1.out)
   unfold CmpP at HCM
   rw [HC0.out] at HCM
   have HCM:=Lib.hid HCM
   clear hb1 HB
   go_wp2_with fail
   refine HCM.out.mono ?_
   rintro e w2 ⟨rfl,hb2⟩
   have HB2:=Lib.hid (HB1.out.trans (hb2.mono HB1.out.size))
   clear hb2 HCM HB1
   go_wp2
   go_roundw
   case rel=>exact ⟨1,by decide,rfl,HB2⟩
   case measure=>simp [intOf]
  ·go_wp2_with fail
   refine (next1_c wr (HL.out wr HB.out)).mono ?_
   rintro e w1 ⟨rfl,hb1⟩
   have HB1:=Lib.hid (HB.out.trans (hb1.mono HB.out.size))
   have HCM:=compare_c ⟨#[49,66]⟩ ⟨#[50]⟩ w1 (by decide) (by decide) (HL.out w1 HB1.out)
   unfold CmpP at HCM
   rw [HC1.out] at HCM
   have HCM:=Lib.hid HCM
   clear hb1 HB
   go_wp2_with fail
   refine HCM.out.mono ?_
   rintro e w2 ⟨rfl,hb2⟩
   have HB2:=Lib.hid (HB1.out.trans (hb2.mono HB1.out.size))
   clear hb2 HCM HB1
   go_wp2
   go_ret
   exact ⟨rfl,HB2.out⟩
set_option maxRecDepth 100000 in
set_option maxHeartbeats 2000000 in
theorem Between12_c (w:World) (hl:ErrsLaid w):Calls Tryz.prog 26 #[.string ⟨#[49]⟩,.string ⟨#[50]⟩] w (fun e w'=>e = .returned (.tuple #[.string ⟨#[49,66]⟩,.int .i64 0]) ∧ Below w.heap.size w w'):=by
 have HL:=Lib.hid (fun (W:World) (hb:Below w.heap.size w W)=>hl.below hb (Nat.le_refl _))
 have HN1:=Lib.hid (fun W=>show Calls Tryz.prog 45 #[.string ⟨#[49]⟩] W (fun e w'=>e = .returned (.bool true) ∧ W = w') from by
  have h:=IsNumber_c ⟨#[49]⟩ W (by decide)
  rw [show numB ⟨#[49]⟩ = true by kernel_rfl] at h
  exact h)
 have HN2:=Lib.hid (fun W=>show Calls Tryz.prog 45 #[.string ⟨#[50]⟩] W (fun e w'=>e = .returned (.bool true) ∧ W = w') from by
  have h:=IsNumber_c ⟨#[50]⟩ W (by decide)
  rw [show numB ⟨#[50]⟩ = true by kernel_rfl] at h
  exact h)
 have HC:=compare_c ⟨#[49]⟩ ⟨#[50]⟩ w (by decide) (by decide) hl
 unfold CmpP at HC
 rw [show cmpN ⟨#[49]⟩ ⟨#[50]⟩ = -1 by kernel_rfl] at HC
 have HCM:=Lib.hid HC
 clear hl HC
 go_enter Tryz.func26,Tryz.ntmps26
 go_wp2_with fail
 refine (HN1.out _).mono ?_
 rintro e w1 ⟨rfl,rfl⟩
 go_wp2_with fail
 refine (HN2.out _).mono ?_
 rintro e w1 ⟨rfl,rfl⟩
 go_wp2_with fail
 refine HCM.out.mono ?_
 rintro e w2 ⟨rfl,hb2⟩
 have HB2:=Lib.hid hb2
 clear hb2 HCM
 go_wp2_with fail
 refine (between12_c w2 (HL.out w2 HB2.out)).mono ?_
 rintro e w3 ⟨rfl,hb3⟩
 have HB3:=Lib.hid (HB2.out.trans (hb3.mono HB2.out.size))
 clear hb3
 go_wp2
 go_ret2
 exact ⟨rfl,HB3.out⟩
end
section
open Go.RowKit Go.Sort
def itB (z:Int):ByteArray:=⟨(Lib.itoa z).toArray⟩
end
section
open Go.RowKit Go.Sort
end
section
open Go.RowKit Go.Sort
end
section
open Go.RowKit Go.Sort
end
section
open Go.RowKit
theorem ba_list {a b:ByteArray} (h:a.data.toList = b.data.toList):a = b:=by
 cases a; cases b; congr 1; exact Array.toList_inj.1 h
theorem itB_list {d:Int} (h:0 ≤ d):(itB d).data.toList = Lib.decDigits d.toNat:=by
 show (Lib.itoa d).toArray.toList = _
 rw [Lib.itoa,if_neg (by omega)]
theorem dig_cap {u:UInt8} (h:65 ≤ u.toNat ∧ u.toNat ≤ 90):digB u = false:=by
 unfold digB
 have:¬ u.toNat ≤ 57:=by omega
 simp [this]
theorem cap_iff {u:UInt8}:capB u = true ↔ 65 ≤ u.toNat ∧ u.toNat ≤ 90:=by simp [capB]
theorem take_dig {l x:List UInt8} (hl:∀ c ∈ l,digB c = true) (hx:capsB x):(l ++ x).takeWhile digB = l:=by
 rw [List.takeWhile_append_of_pos hl]
 cases x with
 | nil=>simp
 | cons u x=>rw [List.takeWhile_cons_of_neg (by rw [dig_cap (hx u (by simp))]; decide),List.append_nil]
def mkN (d:Int) (x:List UInt8):ByteArray:=itB d ++ ⟨x.toArray⟩
theorem mkN_list {d:Int} (h:0 ≤ d) (x:List UInt8):(mkN d x).data.toList = Lib.decDigits d.toNat ++ x:=by
 unfold mkN
 rw [ByteArray.data_append,Array.toList_append,itB_list h]
theorem mkN_K {d:Int} {x:List UInt8} (h:0 ≤ d) (hx:capsB x):numK (mkN d x) = (Lib.decDigits d.toNat).length:=by
 show ((mkN d x).data.toList.takeWhile digB).length = _
 rw [mkN_list h,take_dig (fun c hc=>dec_fig _ c hc) hx]
theorem mkN_D {d:Int} {x:List UInt8} (h:0 ≤ d) (hx:capsB x):numD (mkN d x) = itB d:=by
 apply ba_list
 unfold numD
 rw [extract_list,mkN_list h,mkN_K h hx,itB_list h]
 simp
theorem mkN_C {d:Int} {x:List UInt8} (h:0 ≤ d) (hx:capsB x):(numC (mkN d x)).data.toList = x:=by
 unfold numC
 rw [extract_end,mkN_list h,mkN_K h hx]
 simp
theorem atoiV_it {d:Int} (h:okI d):atoiV (itB d) = d:=by
 unfold atoiV
 rw [show (itB d).data.toList = Lib.itoa d from rfl,atoi_itoa d h]
theorem cmp_mkN {d:Int} {x:List UInt8} (h:0 ≤ d) (h2:d ≤ 1000) (hx:capsB x) (b:ByteArray):cmpN (mkN d x) b = orI [Lib.compareInt d (atoiV (numD b)),Lib.compareBytes x (numC b).data.toList]:=by
 unfold cmpN
 rw [mkN_D h hx,mkN_C h hx,atoiV_it ⟨by omega,by omega⟩]
theorem orI_two (a b:Int):orI [a,b] = if a = 0 then b else a:=by
 unfold orI
 by_cases h:a = 0
 ·subst h
  rw [if_pos rfl]
  by_cases h2:b = 0
  ·subst h2; rfl
  ·simp [h2]
 ·rw [if_neg h]; simp [h]
theorem dec_len3 {n:Nat} (h:n ≤ 999):(Lib.decDigits n).length ≤ 3:=by
 by_cases h1:n < 10
 ·rw [dec_lt h1]; simp
 ·rw [dec_ge h1]
  by_cases h2:n / 10 < 10
  ·rw [dec_lt h2]; simp
  ·rw [dec_ge h2,dec_lt (by omega)]; simp
theorem dec_len4:(Lib.decDigits 1000).length = 4:=by
 rw [dec_ge (by decide),show 1000 / 10 = 100 from rfl,dec_ge (by decide),show 100 / 10 = 10 from rfl,dec_ge (by decide),show 10 / 10 = 1 from rfl,dec_lt (by decide)]
 rfl
theorem numB_mkN {d:Int} {x:List UInt8} (h:0 ≤ d) (h2:d ≤ 1000) (hx:capsB x) (h5:x.length ≤ 5) (hA:Lib.hasSuffix x [65] = false) (h0:d = 0 → x ≠ []):numB (mkN d x) = decide (d ≤ 999):=by
 have hs:(mkN d x).size = (Lib.decDigits d.toNat).length + x.length:=by
  rw [show (mkN d x).size = (mkN d x).data.toList.length by simp,mkN_list h,List.length_append]
 have hp:=List.length_pos_iff.2 (dec_pos d.toNat)
 unfold numB
 rw [mkN_K h hx,hs,mkN_list h,List.drop_left,List.take_left]
 have e1:x.all capB = true:=List.all_eq_true.2 fun u hu=>cap_iff.2 (hx u hu)
 rw [e1,hA,show (Lib.decDigits d.toNat).length + x.length - (Lib.decDigits d.toNat).length = x.length by omega,decide_eq_true h5]
 simp only [Bool.true_and,Bool.not_false]
 by_cases hd0:d = 0
 ·subst hd0
  have hx0:=List.length_pos_iff.2 (h0 rfl)
  rw [show Lib.decDigits (0:Int).toNat = [48] from dec_lt (by decide),if_pos rfl]
  simp
  omega
 ·have hv:dval 0 (Lib.decDigits d.toNat) = d.toNat:=dec_val _
  rw [if_neg (fun e=>by rw [e] at hv; have:dval 0 [48] = 0:=rfl; omega)]
  obtain ⟨c,l,hl,hc⟩:=dec_head d.toNat (by omega)
  have hh:(Lib.decDigits d.toNat ++ x).head? ≠ some 48:=by
   rw [hl]
   intro e
   simp at e
   subst e
   exact hc rfl
  rw [decide_eq_true hh,decide_eq_true (show 1 ≤ (Lib.decDigits d.toNat).length from hp)]
  simp only [Bool.true_and,Bool.and_true]
  by_cases h9:d ≤ 999
  ·rw [decide_eq_true h9,decide_eq_true (dec_len3 (by omega))]
  ·rw [decide_eq_false h9,show d = 1000 by omega]
   rw [show (1000:Int).toNat = 1000 from rfl,dec_len4]
   decide
end
section
open Go.RowKit Go.Sort
set_option maxRecDepth 100000 in
set_option maxHeartbeats 2000000 in
theorem indented_c {F:Nat → Prop} (n:Nat) (l:List ByteArray) (v:Value) (w:World) (hv:Sli strR w F l v) (hF:∀ b,F b → b < w.heap.size) (hn:n ≤ 100) (hl:l.length ≤ 100000) (hsz:∀ x ∈ l,x.size ≤ 1000000) :
  Calls Tryz.prog 121 #[.int .i64 (n:Int),v] w fun e w'=>∃ v',e = .returned v' ∧ Below w.heap.size w w' ∧ Own strR w' w.heap.size w.heap.size 9 (l.map (indS n)) v':=by
 obtain ⟨i0,hi0,hz0,hz1,hz2⟩:=info_parts (show (Tryz.prog.info? 9).map (fun i=>(i.zero,i.size,i.bytes)) = some (some (.string ⟨#[]⟩),1,16) by kernel_rfl)
 obtain ⟨A,c,rfl,hlc,hcm⟩:=hv.form
 obtain ⟨L,hL⟩:∃ L,l.length = L:=⟨_,rfl⟩
 have HL:=Lib.hid hL
 rw [hL] at hv hlc hl ⊢
 have HV:=Lib.hid hv
 have HF:=Lib.hid hF
 have HSZ:=Lib.hid hsz
 clear hL hv hF hsz
 go_enter Tryz.func121,Tryz.ntmps121
 go_wp2
 go_loopw [5,10] (fun v i wr=>∃ j:Nat,j ≤ L ∧ i = .int .i64 j ∧ Hid (Own strR wr w.heap.size w.heap.size 9 ((l.take j).map (indS n)) v) ∧ Hid (Below w.heap.size w wr)) (fun _ i _=>L - (intOf i).toNat)
 case atStart=>exact ⟨0,Nat.zero_le _,rfl,Own.nil_,Below.refl _ _⟩
 case round=>
  obtain ⟨j,hj,rfl,HO,HB⟩:=hrel
  have hbz:=HB.out.size
  by_cases hlt:j < L
  ·have hjl:j < l.length:=by rw [HL.out]; exact hlt
   obtain ⟨b,off,a,rfl,hfb,hra,hca⟩:=(HV.out.below HB.out HF.out).at_ j hjl
   have hea:a = [.string l[j]]:=hra
   subst hea
   have c0:wr.cell? ⟨b,off + j,none⟩ = some (.string l[j]):=by
    have h:=hca 0 _ rfl
    simpa [strR,Rep.flat] using h
   have hs1:=HSZ.out _ (List.getElem_mem hjl)
   have HTK:=Lib.hid (show (l.take (j + 1)).map (indS n) = (l.take j).map (indS n) ++ [indS n l[j]] by rw [List.take_succ_eq_append_getElem hjl,List.map_append]; rfl)
   have hll:((l.take j).map (indS n)).length ≤ 100000:=by rw [List.length_map,List.length_take]; omega
   generalize l[j]'hjl = s at *
   generalize (l.take j).map (indS n) = acc at *
   have hx1:¬ 9223372036854775807 < (blanks n).size + s.size:=by rw [blanks_size]; omega
   obtain ⟨A1,n1,q1,rfl⟩:=own_form HO.out
   clear hra hca hjl
   go_wp2_with fail
   refine (rep_c n wr (by omega)).mono ?_
   rintro e w5 ⟨rfl,hb5⟩
   have HB5:=Lib.hid (HB.out.trans (hb5.mono hbz))
   have HO5:=Lib.hid ((HO.out.below hb5).alloc (.cells #[.string (blanks n ++ s)] 9))
   have hz5:=HB5.out.size
   clear hb5 HO HB c0
   go_wp2_with (at_builtin; (refine wpList_pushB (R:=strR) rfl _ _ _ rfl w.heap.size w.heap.size 9 i0 _ 16 Tryz.underlying31 hi0 hz0 hz1 hz2 rfl (by decide) _ (.slice A1 n1 q1) acc rfl HO5.out (blanks n ++ s) _ rfl (oneC rfl) w5.heap.size _ _ (heap_alloc_new w5 _) rfl (by unfold maxLen; omega) (by omega) (by simp; omega) ?_); intro g cap w8 hown8 hg8 hat8 hlt8)
   go_roundw
   case rel=>exact ⟨j + 1,by omega,intNum,Lib.hid (by rw [HTK.out]; exact hown8),Lib.hid ((HB5.out.alloc hz5 _).grown hg8 (by simp; omega) (fun q hq=>(HO5.out.block q hq).1))⟩
   case measure=>simp [intOf]; omega
  ·have HTK:=Lib.hid (show l.take j = l by rw [List.take_of_length_le (by rw [HL.out]; omega)])
   rw [HTK.out] at HO
   go_wp2
   go_ret
   exact ⟨_,rfl,HB.out,HO.out⟩
end
end Go.Proofs.YtaoobkgepcikiaaGreatDoor
