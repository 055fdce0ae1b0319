/- Texts packed: LnW, LnX, RbT, PgT, PgU, PgV, PgW. -/
import Derived.Test.YtaoobkgepcikiaaGreatDoorSc30
import Derived.Test.YtaoobkgepcikiaaGreatDoorSc02
import Derived.Test.YtaoobkgepcikiaaGreatDoorSc24
import Derived.Test.YtaoobkgepcikiaaGreatDoorSc29
namespace Go.Proofs.YtaoobkgepcikiaaGreatDoor
set_option linter.unusedVariables false
section
open Go.RowKit Go.Sort
theorem Gap_c (b:Blk) (v1 v2:Value) (w:World):Calls Tryz.prog 104 #[.agg #[.int .i64 (b.kind:Int),v1,v2,.string b.name]] w fun e w'=>e = .returned (.int .i64 (b.gap:Int)) ∧ Below w.heap.size w w':=by
 have HB:=Lib.hid ((Below.refl w.heap.size w).alloc (Nat.le_refl _) (.cells #[.int .i64 (b.kind:Int),v1,v2,.string b.name] 99))
 by_cases h0:b.kind = 0
 ·have HG:=Lib.hid (show b.gap = 2 from if_pos h0)
  have h1:((b.kind:Int) == 0) = true:=by rw [beq_iff_eq]; omega
  clear h0
  go_enter Tryz.func104,Tryz.ntmps104
  go_wp2
  go_ret
  exact ⟨by rw [HG.out]; rfl,HB.out⟩
 ·have HG:=Lib.hid (show b.gap = 1 from if_neg h0)
  have h1:((b.kind:Int) == 0) = false:=by rw [beq_eq_false_iff_ne]; omega
  clear h0
  go_enter Tryz.func104,Tryz.ntmps104
  go_wp2
  go_ret
  exact ⟨by rw [HG.out]; rfl,HB.out⟩
end
section
open Go.RowKit Go.Sort
end
section
open Go.RowKit Go.Sort
theorem wrapL_some {wd:Nat} (h0:0 < wd):∀ (ws:List (List UInt8)),(∀ w ∈ ws,¬ w = []) → ws ≠ [] → ¬ (wrapL wd ws).cur = []:=by
 have step:∀ (st:Wst) (w:List UInt8),¬ w = [] → ¬ (wrapW wd st w).cur = []:=by
  intro st w hw
  unfold wrapW
  rw [if_neg hw]
  split
  ·simp
  ·exact chopZ_pos h0 w.length w (Nat.le_refl _) hw
 intro ws hws hne
 obtain ⟨a,w,rfl⟩:∃ a w,ws = a ++ [w]:=⟨ws.dropLast,ws.getLast hne,(List.dropLast_concat_getLast hne).symm⟩
 rw [wrapL_snoc]
 exact step _ w (hws w (by simp))
theorem wrapT_pos {s:ByteArray} {wd:Nat} (h0:0 < wd) (h:wordsA s.data.toList [] ≠ []):0 < (wrapT s wd).length:=by
 unfold wrapT
 rw [List.length_map]
 have h1:=wrapL_some h0 (wordsA s.data.toList []) (wordsA_ne2 s.data.toList []) h
 have h2:=wrapL_ok h0 (wordsA s.data.toList [])
 refine Nat.pos_of_ne_zero fun e=>h1 ((all_nil h2).1 (List.eq_nil_of_length_eq_zero e))
theorem plain_words {s:ByteArray} (h:plainB s = true) (h0:0 < s.size):wordsA s.data.toList [] ≠ []:=fun e=>by
 have h2:(allB prB s && plainL s.data.toList) = true:=h
 rw [Bool.and_eq_true] at h2
 have h3:=(plain_join _).2 h2.2
 rw [e] at h3
 have h4:s.data.toList.length = s.size:=by simp
 rw [← h3] at h4
 simp [joinW] at h4
 omega
theorem par_words (s:ByteArray):wordsA (⟨#[40]⟩ ++ s ++ ⟨#[41]⟩:ByteArray).data.toList [] ≠ []:=by
 rw [show (⟨#[40]⟩ ++ s ++ ⟨#[41]⟩:ByteArray).data.toList = 40 :: (s.data.toList ++ [41]) by simp]
 rw [wordsA,if_neg (by decide)]
 exact wordsA_ne _ _ (by simp)
def rkN (k:Nat):Int:=if k = 2 then 5 else if k = 3 then 2 else (k:Int)
def rbCs (x:BkT):List Value:=[.int .i64 (rkN x.1.kind),x.2.1,x.2.2]
def rbI (b:Bool) (x:BkT):List Value:=match b with
 | false=>x.1.lines.map .string
 | true=>x.1.kinds.map fun k:Nat=>Value.bool (decide (k = 2))
def rbE (b:Bool):TypeId:=match b with
 | false=>9
 | true=>4
def rbR:Rep BkT:=Rep.flat 3 rbCs (fun _=>rfl)
abbrev RbN (w:World) (l:List BkT) (v:Value) (P:List Pc) (wx:World):Prop:=NGF 3 rbCs (fun _=>rfl) rbI bkV 162 rbE w l v P wx
section
variable {w wx wy:World} {l:List BkT} {P:List Pc} {g0 M cap k g':Nat} {y:BkT} {u:Value}
theorem RbN.line {L':List ByteArray} (h:RbN w (l.set k y) (.slice (some ⟨g0,0,none⟩) M cap) P wx) (hk:k < l.length) (hown:Own valR wy w.heap.size w.heap.size 9 (L'.map .string) u) (hg:wx.grownBy wy y.2.1.ownBlock) (hv:u.ownBlock = some g') (hat:y.2.1.ownBlock = some g' ∨ wx.heap.size ≤ g') :
  RbN w (l.set k ({ y.1 with lines:=L' },u,y.2.2)) (.slice (some ⟨g0,0,none⟩) M cap) P (wy.setCell ⟨g0,k * 3 + 1,none⟩ u):=by
 have hk2:k < (l.set k y).length:=by rw [List.length_set]; exact hk
 have he:(l.set k y)[k] = y:=List.getElem_set_self (by rw [List.length_set]; exact hk)
 have h2:=NG.inner (b:=false) (k:=k) (j:=1) h hk2 hown (by rw [he]; exact hg) hv (by rw [he]; exact hat) (fun x=>({ x.1 with lines:=L' },u,x.2.2)) (fun x=>rfl) (by decide) rfl rfl (fun c hc=>by
  cases c with
  | false=>exact absurd rfl hc
  | true=>exact ⟨rfl,rfl⟩)
 rw [set_modify] at h2
 exact h2
theorem RbN.kind {K':List Nat} (h:RbN w (l.set k y) (.slice (some ⟨g0,0,none⟩) M cap) P wx) (hk:k < l.length) (hown:Own valR wy w.heap.size w.heap.size 4 (K'.map fun k:Nat=>Value.bool (decide (k = 2))) u) (hg:wx.grownBy wy y.2.2.ownBlock) (hv:u.ownBlock = some g') (hat:y.2.2.ownBlock = some g' ∨ wx.heap.size ≤ g') :
  RbN w (l.set k ({ y.1 with kinds:=K' },y.2.1,u)) (.slice (some ⟨g0,0,none⟩) M cap) P (wy.setCell ⟨g0,k * 3 + 2,none⟩ u):=by
 have hk2:k < (l.set k y).length:=by rw [List.length_set]; exact hk
 have he:(l.set k y)[k] = y:=List.getElem_set_self (by rw [List.length_set]; exact hk)
 have h2:=NG.inner (b:=true) (k:=k) (j:=2) h hk2 hown (by rw [he]; exact hg) hv (by rw [he]; exact hat) (fun x=>({ x.1 with kinds:=K' },x.2.1,u)) (fun x=>rfl) (by decide) rfl rfl (fun c hc=>by
  cases c with
  | true=>exact absurd rfl hc
  | false=>exact ⟨rfl,rfl⟩)
 rw [set_modify] at h2
 exact h2
theorem RbN.snoc {wa:World} {v v' v1 v2:Value} {b:Blk} {g:Nat} {o:Obj} (h:RbN w l v P wx) (hb:Below wx.heap.size wx wa) (h1:Own valR wa wx.heap.size wx.heap.size 9 (b.lines.map .string) v1) (h2:Own valR wa wx.heap.size wx.heap.size 4 (b.kinds.map fun k:Nat=>Value.bool (decide (k = 2))) v2) (hd:Dis v1 v2)
  (hown:Own rbR wy w.heap.size w.heap.size 162 (l ++ [(b,v1,v2)]) v') (hg:(wa.alloc o).grownBy wy v.ownBlock) (hv:v'.ownBlock = some g) (hat:v.ownBlock = some g ∨ g = (wa.alloc o).heap.size):RbN w (l ++ [(b,v1,v2)]) v' P wy:=
 NG.push ((h.below hb).alloc o) ((NGNew.of h (x':=(b,v1,v2)) (fun c=>by
  cases c with
  | false=>exact h1
  | true=>exact h2) (fun c d hcd=>by
  cases c with
  | false=>cases d with
   | false=>exact absurd rfl hcd
   | true=>exact hd
  | true=>cases d with
   | true=>exact absurd rfl hcd
   | false=>exact hd.symm)).alloc o) hown hg hv hat
theorem RbN.first {wa:World} {v1 v2:Value} {b:Blk} (hb0:Below w.heap.size w wx) (hb:Below wx.heap.size wx wa) (h1:Own valR wa wx.heap.size wx.heap.size 9 (b.lines.map .string) v1) (h2:Own valR wa wx.heap.size wx.heap.size 4 (b.kinds.map fun k:Nat=>Value.bool (decide (k = 2))) v2) (hd:Dis v1 v2) :
  RbN w [(b,v1,v2)] (.slice (some ⟨wa.heap.size,0,none⟩) 1 1) [] (wa.alloc (.cells (rbCs (b,v1,v2)).toArray 162)):=
 NG.one (hb0.trans (hb.mono hb0.size)) (fun c=>by
  cases c with
  | false=>exact Own.less (enc:=fun v:Value=>[v]) (hn:=fun _=>rfl) h1 hb0.size
  | true=>exact Own.less (enc:=fun v:Value=>[v]) (hn:=fun _=>rfl) h2 hb0.size) (fun c d hcd=>by
  cases c with
  | false=>cases d with
   | false=>exact absurd rfl hcd
   | true=>exact hd
  | true=>cases d with
   | true=>exact absurd rfl hcd
   | false=>exact hd.symm)
theorem RbN.cells {l2:List BkT} (hl:l2 = l.set k y) (hk:k < l.length) (h:RbN w l2 (.slice (some ⟨g0,0,none⟩) M cap) P wx):(wx.cell? ⟨g0,k * 3 + 1,none⟩ = some y.2.1 ∧ wx.frozen? ⟨g0,k * 3 + 1,none⟩ = false) ∧ (wx.cell? ⟨g0,k * 3 + 2,none⟩ = some y.2.2 ∧ wx.frozen? ⟨g0,k * 3 + 2,none⟩ = false):=by
 subst hl
 have hk3:k < (l.set k y).length:=by rw [List.length_set]; exact hk
 have he3:(l.set k y)[k] = y:=List.getElem_set_self hk3
 have a1:=Own.cellAt h.bo.own k hk3 1 (by decide)
 have a2:=Own.cellAt h.bo.own k hk3 2 (by decide)
 rw [he3] at a1 a2
 exact ⟨a1,a2⟩
end
end
section
open Go.RowKit
theorem wordsA_some:∀ (l cur:List UInt8),(∃ c ∈ l,¬ c = 32) → wordsA l cur ≠ []
 | [],_,h=>by obtain ⟨c,hc,_⟩:=h; cases hc
 | c :: l,cur,h=>by
  rw [wordsA]
  by_cases hc:c = 32
  ·rw [if_pos hc]
   by_cases hz:cur = []
   ·rw [if_pos hz]
    refine wordsA_some l [] ?_
    obtain ⟨d,hd,hn⟩:=h
    rcases List.mem_cons.1 hd with rfl | hd
    ·exact absurd hc hn
    ·exact ⟨d,hd,hn⟩
   ·rw [if_neg hz]; simp
  ·rw [if_neg hc]; exact wordsA_ne _ _ (by simp)
theorem head_words (x:Scene):wordsA (headS x).data.toList [] ≠ []:=by
 refine wordsA_some _ _ ⟨45,?_,by decide⟩
 unfold headS
 split <;> simp
theorem rep_map {α:Type} (l:List α) (k:Nat):(l.map fun _=>k) = List.replicate l.length k:=by
 induction l with
 | nil=>rfl
 | cons a l ih=>rw [List.map_cons,ih]; rfl
theorem GoodB.wrap1 (t:ByteArray) (h:plainB t = true) (h0:0 < t.size):GoodB (blkWrap 1 t):=
 ⟨wrapT_pos (by decide) (plain_words h h0),fun k=>absurd rfl k,fun k=>(by cases k),fun k=>(by cases k)⟩
theorem GoodB.head {x:Scene} (h:LnOk x):GoodB (blkWrap 0 (headS x)):=by
 refine ⟨wrapT_pos (by decide) (head_words x),fun _ _=>?_,fun k=>(by cases k),fun k=>(by cases k)⟩
 have h1:=wrapT_few (headS x) (wd:=60) (by decide)
 have h2:=h.head.1
 show (wrapT (headS x) 60).length ≤ 50
 omega
theorem GoodB.turn (t:ByteArray):GoodB (blkTurn t):=⟨Nat.le_refl 1,fun _ _=>by show 1 ≤ 50; omega,fun k=>(by cases k),fun k=>(by cases k)⟩
theorem GoodB.group (nm:ByteArray):GoodB (blkGroup nm):=⟨Nat.le_refl 1,fun _ k=>absurd rfl k,fun _=>rfl,fun _=>⟨by omega,trivial⟩⟩
theorem GoodB.put {b:Blk} (h:GoodB b) (h3:b.kind = 3) (kd at_:Nat) (l:List ByteArray) (hr:runOk 15 (endRun 0 b.kinds) (List.replicate l.length kd)):GoodB (b.put kd at_ l):=by
 refine ⟨?_,fun _ k=>absurd h3 k,fun _=>?_,fun _=>?_⟩
 ·show 1 ≤ (b.lines ++ l.map (indS at_)).length
  have:=h.pos
  rw [List.length_append]; omega
 ·show (b.kinds ++ l.map fun _=>kd).length = (b.lines ++ l.map (indS at_)).length
  rw [List.length_append,List.length_append,List.length_map,List.length_map,h.ks h3]
 ·show runOk 15 0 (b.kinds ++ l.map fun _=>kd)
  rw [rep_map]
  exact runOk_append _ _ _ (h.run h3) hr
def BlSt (out:List Blk) (last:Int):Prop:=(∀ b ∈ out,GoodB b) ∧ (last = 2 ∨ last = 3 ∨ last = 4 → ∃ o b,out = o ++ [b] ∧ b.kind = 3 ∧ endRun 0 b.kinds ≤ (if last = 2 then 1 else if last = 3 then 15 else 0))
theorem mod_at {α:Type} (b:α) (f:α → α):∀ (o:List α),(o ++ [b]).modify o.length f = o ++ [f b]
 | []=>rfl
 | x :: o=>congrArg (x :: ·) (mod_at b f o)
theorem mod_last {α:Type} (o:List α) (b:α) (f:α → α):(o ++ [b]).modify ((o ++ [b]).length - 1) f = o ++ [f b]:=by
 rw [List.length_append,List.length_singleton,Nat.add_sub_cancel]
 exact mod_at b f o
theorem BlSt.snoc {out:List Blk} {last k:Int} {b:Blk} (h:BlSt out last) (hb:GoodB b) (hk:k = 2 ∨ k = 3 ∨ k = 4 → b.kind = 3 ∧ endRun 0 b.kinds ≤ (if k = 2 then 1 else if k = 3 then 15 else 0)):BlSt (out ++ [b]) k:=
 ⟨fun x hx=>by
  rcases List.mem_append.1 hx with hx | hx
  ·exact h.1 x hx
  ·rw [List.mem_singleton.1 hx]; exact hb,fun hq=>⟨out,b,rfl,hk hq⟩⟩
theorem BlSt.step {out:List Blk} {last:Int} {p:Para} (h:BlSt out last) (hp:paraE p = 0) (hf:followsB p.kind last = true):BlSt (blkPara out p) p.kind:=by
 obtain ⟨h0,h1,h2,h3,h4⟩:=paraE_sz hp
 unfold blkPara
 by_cases k1:p.kind = 1
 ·rw [if_pos k1]; exact h.snoc (GoodB.wrap1 _ h2 h0) (fun k=>by omega)
 rw [if_neg k1]
 by_cases k5:p.kind = 5
 ·rw [if_pos k5]; exact h.snoc (GoodB.turn _) (fun k=>by omega)
 rw [if_neg k5]
 by_cases k2:p.kind = 2
 ·rw [if_pos k2,k2]; exact h.snoc (GoodB.group _) (fun _=>⟨rfl,by rw [if_pos rfl]; exact Nat.le_refl 1⟩)
 rw [if_neg k2]
 by_cases k3:p.kind = 3
 ·rw [if_pos k3]
  have hl:last = 2 ∨ last = 4:=by unfold followsB at hf; rw [if_pos k3] at hf; simpa using hf
  obtain ⟨o,b,rfl,hb3,hbr⟩:=h.2 (by omega)
  have hbr1:endRun 0 b.kinds ≤ 1:=by rcases hl with rfl | rfl <;> simp at hbr <;> omega
  have hg:GoodB b:=h.1 b (by simp)
  have h200:p.text.size ≤ 200:=by
   unfold paraE at hp
   rw [if_neg (by omega)] at hp
   split at hp
   ·cases hp
   ·split at hp
    ·cases hp
    ·rename_i hc; exact Nat.le_of_not_lt fun hx=>hc (.inr ⟨k3,hx⟩)
  have hw:=wrapT_few (⟨#[40]⟩ ++ p.text ++ ⟨#[41]⟩) (wd:=30) (by decide)
  rw [par_sz] at hw
  rw [mod_last,k3]
  generalize wrapT (⟨#[40]⟩ ++ p.text ++ ⟨#[41]⟩) 30 = ls at *
  have hls:ls.length ≤ 14:=by omega
  refine ⟨fun x hx=>?_,fun _=>⟨o,_,rfl,hb3,?_⟩⟩
  ·rcases List.mem_append.1 hx with hx | hx
   ·exact h.1 x (by simp [hx])
   ·rw [List.mem_singleton.1 hx]; exact hg.put hb3 1 15 ls (runOk_rep1 15 _ _ (by omega))
  ·show endRun 0 (b.kinds ++ ls.map fun _=>1) ≤ _
   rw [rep_map,endRun_append,endRun_rep1,if_neg (by decide),if_pos rfl]
   omega
 rw [if_neg k3]
 have k4:p.kind = 4:=by omega
 rw [if_pos k4]
 have hl:last = 2 ∨ last = 3 ∨ last = 4:=by unfold followsB at hf; rw [if_neg k3,if_pos k4] at hf; simpa [or_assoc] using hf
 obtain ⟨o,b,rfl,hb3,hbr⟩:=h.2 hl
 have hg:GoodB b:=h.1 b (by simp)
 have hw:=wrapT_pos (s:=p.text) (wd:=35) (by decide) (plain_words h2 h0)
 rw [mod_last,k4]
 generalize wrapT p.text 35 = ls at *
 refine ⟨fun x hx=>?_,fun _=>⟨o,_,rfl,hb3,?_⟩⟩
 ·rcases List.mem_append.1 hx with hx | hx
  ·exact h.1 x (by simp [hx])
  ·rw [List.mem_singleton.1 hx]; exact hg.put hb3 2 10 ls (runOk_rep2 15 _ _)
 ·show endRun 0 (b.kinds ++ ls.map fun _=>2) ≤ _
  rw [rep_map,endRun_append,endRun_rep2 _ _ hw]
  exact Nat.zero_le _
theorem blSt_all:∀ (l:List Para) (out:List Blk) (last:Int),parasE last l = 0 → BlSt out last → ∀ b ∈ l.foldl blkPara out,GoodB b
 | [],_,_,_,h=>h.1
 | p :: r,out,last,he,h=>by
  rw [parasE] at he
  by_cases h1:paraE p = 0
  ·rw [if_neg (by rw [h1]; decide)] at he
   cases hf:followsB p.kind last with
   | false=>rw [hf,if_pos rfl] at he; cases he
   | true=>
    rw [hf,if_neg (by decide)] at he
    exact blSt_all r _ _ he (h.step h1 hf)
  ·rw [if_pos h1] at he; exact absurd he h1
theorem blocks_good {x:Scene} (h:LnOk x):∀ b ∈ blocksS x,GoodB b:=
 blSt_all x.paras _ 0 h.ok.2.2.2.2 ⟨fun b hb=>by rw [List.mem_singleton.1 hb]; exact GoodB.head h,fun k=>by omega⟩
end
section
open Go.RowKit
def kR (b:Blk) (f i:Nat):Int:=match lastBrk b f i with | some j=>(j:Int) - 1 | none=>(f:Int) - 1
theorem lastBrk_low (b:Blk) (f:Nat):∀ m,m ≤ f → lastBrk b f m = none
 | 0,_=>rfl
 | m + 1,h=>by unfold lastBrk; rw [if_neg (by omega)]; exact lastBrk_low b f m (by omega)
theorem kR_start (b:Blk) (f:Nat):kR b f f = (f:Int) - 1:=by unfold kR; rw [lastBrk_low b f f (Nat.le_refl _)]
theorem kR_yes {b:Blk} {f i:Nat} (hi:f ≤ i) (h:brk b f (i + 1) = true):kR b f (i + 1) = (i:Int):=by
 unfold kR
 rw [lastBrk,if_pos ⟨by omega,h⟩]
 show ((i + 1:Nat):Int) - 1 = i
 omega
theorem kR_no {b:Blk} {f i:Nat} (h:brk b f (i + 1) = false):kR b f (i + 1) = kR b f i:=by
 unfold kR
 rw [lastBrk,if_neg (by rw [h]; simp)]
theorem brk_end {b:Blk} {f k:Nat} (h:b.lines.length < k + 2):brk b f k = false:=by
 unfold brk
 rw [decide_eq_false (p:=k + 2 ≤ b.lines.length) (by omega)]; simp
theorem kR_end {b:Blk} (h:GoodB b) {f room i:Nat} (hr:RoomOk b f room) (hn:¬ b.lines.length - f ≤ room) (hi:i ≤ roomK b f room) (hi2:i ≤ b.lines.length) (he:roomK b f room ≤ i ∨ b.lines.length ≤ i):kR b f i = (stopB b f room:Int) - 1:=by
 obtain ⟨s1,s2,s3,s4,s5⟩:=stopB_brk h hr hn
 have hle:stopB b f room ≤ i:=by omega
 obtain ⟨k,hk⟩:=lastBrk_ex (m:=i) s1 hle s4
 obtain ⟨a1,a2,a3,a4⟩:=lastBrk_some hk
 have:k = stopB b f room:=by
  rcases Nat.lt_trichotomy k (stopB b f room) with hlt | he2 | hgt
  ·rw [a4 _ hlt hle] at s4; cases s4
  ·exact he2
  ·by_cases hkn:k < b.lines.length
   ·rw [s5 k hgt (by omega) hkn] at a3; cases a3
   ·rw [brk_end (by omega)] at a3; cases a3
 unfold kR
 rw [hk,this]
theorem needB_app (b:Blk) (r s:List Blk) (h:∀ y t,s = y :: t → y.kind = 0):needB b (r ++ s) = needB b r:=by
 unfold needB
 cases r with
 | cons y t=>rfl
 | nil=>
  cases s with
  | nil=>rfl
  | cons y t=>simp [h y t rfl]
def putB (b:Blk) (r:List Blk) (q:List (List ByteArray) × List ByteArray):(List (List ByteArray) × List ByteArray) × Nat:=
 let P1:=if topB b r q.2 = true ∧ ¬ q.2 = [] then q.1 ++ [q.2] else q.1
 let pg1:=if topB b r q.2 = true then [] else q.2 ++ List.replicate b.gap ⟨#[]⟩
 (fillB b (b.lines.length + 1) 0 P1 pg1,P1.length)
theorem layB_cons (b:Blk) (r:List Blk) (P:List (List ByteArray)) (pg:List ByteArray) (st:List Nat):layB (b :: r) P pg st = layB r (putB b r (P,pg)).1.1 (putB b r (P,pg)).1.2 (st ++ [(putB b r (P,pg)).2]):=rfl
theorem layB_st:∀ (l:List Blk) (P:List (List ByteArray)) (pg:List ByteArray) (st:List Nat),(layB l P pg st).1 = (layB l P pg []).1 ∧ (layB l P pg st).2.1 = (layB l P pg []).2.1 ∧ (layB l P pg st).2.2 = st ++ (layB l P pg []).2.2
 | [],P,pg,st=>⟨rfl,rfl,(List.append_nil _).symm⟩
 | b :: r,P,pg,st=>by
  rw [layB_cons,layB_cons]
  obtain ⟨a1,a2,a3⟩:=layB_st r (putB b r (P,pg)).1.1 (putB b r (P,pg)).1.2 (st ++ [(putB b r (P,pg)).2])
  obtain ⟨b1,b2,b3⟩:=layB_st r (putB b r (P,pg)).1.1 (putB b r (P,pg)).1.2 ([] ++ [(putB b r (P,pg)).2])
  refine ⟨a1.trans b1.symm,a2.trans b2.symm,?_⟩
  rw [a3,b3]
  simp
theorem putB_top {b:Blk} {r:List Blk} {pg:List ByteArray}:topB b r pg = true ↔ pg = [] ∨ 54 < pg.length + b.gap + needB b r:=by
 unfold topB
 rw [Bool.or_eq_true,decide_eq_true_eq]
 cases pg with
 | nil=>simp
 | cons a t=>simp
theorem leastB_need (b:Blk) (r:List Blk):leastB b ≤ needB b r:=by unfold needB; omega
theorem room_first {b:Blk} {r:List Blk} {pg:List ByteArray} (h:topB b r pg = false):RoomOk b 0 (54 - (pg ++ List.replicate b.gap (⟨#[]⟩:ByteArray)).length):=by
 have hn:¬ (pg = [] ∨ 54 < pg.length + b.gap + needB b r):=fun k=>by rw [putB_top.2 k] at h; cases h
 have:=leastB_need b r
 refine .inl ⟨rfl,.inl ?_⟩
 rw [List.length_append,List.length_replicate]
 have:¬ 54 < pg.length + b.gap + needB b r:=fun k=>hn (.inr k)
 omega
theorem room_top (b:Blk):RoomOk b 0 (54 - ([]:List ByteArray).length):=.inl ⟨rfl,.inr rfl⟩
theorem room_next {b:Blk} {f:Nat} (h:0 < f):RoomOk b f (54 - (if b.kind = 3 then [contS b.name] else ([]:List ByteArray)).length):=Or.inr ⟨h,by split <;> simp⟩
theorem fillB_end {b:Blk} {m f:Nat} {P:List (List ByteArray)} {pg:List ByteArray} (h:b.lines.length - f ≤ 54 - pg.length):fillB b (m + 1) f P pg = (P,pg ++ b.lines.drop f):=by
 rw [fillB,if_pos (by unfold stopB; rw [if_pos h])]
theorem fillB_more {b:Blk} (hb:GoodB b) {m f:Nat} {P:List (List ByteArray)} {pg:List ByteArray} (hr:RoomOk b f (54 - pg.length)) (h:¬ b.lines.length - f ≤ 54 - pg.length) :
  fillB b (m + 1) f P pg = fillB b m (stopB b f (54 - pg.length)) (P ++ [pg ++ (b.lines.drop f).take (stopB b f (54 - pg.length) - f) ++ (if b.kind = 3 then [moreS] else [])]) (if b.kind = 3 then [contS b.name] else []):=by
 rw [fillB,if_neg (by have:=(stopB_brk hb hr h).2.2.1; omega)]
theorem fillB_fuel {b:Blk} (hb:GoodB b):∀ (m m2 f:Nat) (P:List (List ByteArray)) (pg:List ByteArray),RoomOk b f (54 - pg.length) → b.lines.length - f < m → b.lines.length - f < m2 → fillB b m f P pg = fillB b m2 f P pg
 | 0,_,_,_,_,_,h,_=>by omega
 | _ + 1,0,_,_,_,_,_,h=>by omega
 | m + 1,m2 + 1,f,P,pg,hr,h1,h2=>by
  by_cases h:b.lines.length - f ≤ 54 - pg.length
  ·rw [fillB_end h,fillB_end h]
  ·rw [fillB_more hb hr h,fillB_more hb hr h]
   obtain ⟨s1,s2,s3,_⟩:=stopB_brk hb hr h
   exact fillB_fuel hb m m2 _ _ _ (room_next (by omega)) (by omega) (by omega)
theorem fillB_page {b:Blk} (hb:GoodB b):∀ (m f:Nat) (P:List (List ByteArray)) (pg:List ByteArray),RoomOk b f (54 - pg.length) → f < b.lines.length → b.lines.length - f < m → ¬ (fillB b m f P pg).2 = []
 | 0,_,_,_,_,_,h=>by omega
 | m + 1,f,P,pg,hr,hf,h1=>by
  by_cases h:b.lines.length - f ≤ 54 - pg.length
  ·rw [fillB_end h]
   intro e
   have:=congrArg List.length e
   rw [List.length_append,List.length_drop] at this
   simp at this
   omega
  ·rw [fillB_more hb hr h]
   obtain ⟨s1,s2,s3,_⟩:=stopB_brk hb hr h
   exact fillB_page hb m _ _ _ (room_next (by omega)) s3 (by omega)
end
section
open Go.RowKit
abbrev PgQ:=List (List ByteArray) × List ByteArray
def runB:List Blk → List Blk → PgQ → PgQ × List Nat
 | [],_,q=>(q,[])
 | b :: l,r,q=>((runB l r (putB b (l ++ r) q).1).1,(putB b (l ++ r) q).2 :: (runB l r (putB b (l ++ r) q).1).2)
theorem runB_len:∀ (l r:List Blk) (q:PgQ),(runB l r q).2.length = l.length
 | [],_,_=>rfl
 | b :: l,r,q=>by rw [runB,List.length_cons,List.length_cons,runB_len l r]
theorem layB_run:∀ (l r:List Blk) (q:PgQ),(layB (l ++ r) q.1 q.2 []).1 = (layB r (runB l r q).1.1 (runB l r q).1.2 []).1 ∧ (layB (l ++ r) q.1 q.2 []).2.1 = (layB r (runB l r q).1.1 (runB l r q).1.2 []).2.1 ∧ (layB (l ++ r) q.1 q.2 []).2.2 = (runB l r q).2 ++ (layB r (runB l r q).1.1 (runB l r q).1.2 []).2.2
 | [],r,q=>⟨rfl,rfl,rfl⟩
 | b :: l,r,q=>by
  rw [List.cons_append,layB_cons]
  obtain ⟨a1,a2,a3⟩:=layB_st (l ++ r) (putB b (l ++ r) q).1.1 (putB b (l ++ r) q).1.2 ([] ++ [(putB b (l ++ r) q).2])
  obtain ⟨b1,b2,b3⟩:=layB_run l r (putB b (l ++ r) q).1
  refine ⟨a1.trans b1,a2.trans b2,?_⟩
  rw [a3,b3,runB]
  simp
def stR:List (List Blk) → PgQ → List Nat
 | [],_=>[]
 | l :: L,q=>((runB l L.flatten q).2.headD 0 + 1) :: stR L (runB l L.flatten q).1
theorem put_head {b:Blk} (hb:GoodB b) (h0:b.kind = 0) (r:List Blk) (q:PgQ):(putB b r q).1.1.length = (putB b r q).2:=by
 have hfew:=hb.few (by omega) (by omega)
 unfold putB
 dsimp only
 cases ht:topB b r q.2 with
 | true=>
  rw [if_pos rfl,fillB_end (by simp; omega)]
 | false=>
  have hroom:=room_first (b:=b) (r:=r) (pg:=q.2) ht
  rw [if_neg (by simp),if_neg (by simp)]
  rcases hroom with ⟨_,hl | hl⟩ | ⟨hz,_⟩
  ·rw [leastB,if_neg (by omega),if_neg (by omega)] at hl
   rw [fillB_end (by omega)]
  ·rw [fillB_end (by omega)]
  ·omega
end
section
open Go.RowKit
theorem map_modify {α β:Type} (g:α → β) (f:α → α) (hf:∀ a,g (f a) = g a):∀ (l:List α) (i:Nat),(l.modify i f).map g = l.map g
 | [],i=>by cases i <;> rfl
 | a :: l,0=>by show g (f a) :: l.map g = _; rw [hf]; rfl
 | a :: l,i + 1=>congrArg (g a :: ·) (map_modify g f hf l i)
theorem blkPara_kinds (out:List Blk) (p:Para):∃ ks:List Nat,(blkPara out p).map (·.kind) = out.map (·.kind) ++ ks ∧ ∀ k ∈ ks,¬ k = 0:=by
 unfold blkPara
 split
 ·exact ⟨[1],by simp [blkWrap],by simp⟩
 ·split
  ·exact ⟨[2],by simp [blkTurn],by simp⟩
  ·split
   ·exact ⟨[3],by simp [blkGroup],by simp⟩
   ·split
    ·exact ⟨[],by rw [List.append_nil]; exact map_modify (fun y:Blk=>y.kind) (fun b=>b.put 1 15 _) (fun _=>rfl) out _,by simp⟩
    ·split
     ·exact ⟨[],by rw [List.append_nil]; exact map_modify (fun y:Blk=>y.kind) (fun b=>b.put 2 10 _) (fun _=>rfl) out _,by simp⟩
     ·exact ⟨[],by rw [List.append_nil],by simp⟩
theorem fold_kinds:∀ (l:List Para) (out:List Blk),∃ ks:List Nat,(l.foldl blkPara out).map (·.kind) = out.map (·.kind) ++ ks ∧ ∀ k ∈ ks,¬ k = 0
 | [],out=>⟨[],by simp,by simp⟩
 | p :: r,out=>by
  obtain ⟨k1,h1,g1⟩:=blkPara_kinds out p
  obtain ⟨k2,h2,g2⟩:=fold_kinds r (blkPara out p)
  refine ⟨k1 ++ k2,by rw [List.foldl_cons,h2,h1,List.append_assoc],fun k hk=>?_⟩
  rcases List.mem_append.1 hk with hk | hk
  ·exact g1 k hk
  ·exact g2 k hk
theorem blocks_shape (x:Scene):∃ h t,blocksS x = h :: t ∧ h.kind = 0 ∧ ∀ b ∈ t,¬ b.kind = 0:=by
 obtain ⟨ks,h1,h2⟩:=fold_kinds x.paras [blkWrap 0 (headS x)]
 change (blocksS x).map (·.kind) = [0] ++ ks at h1
 cases hb:blocksS x with
 | nil=>rw [hb] at h1; cases h1
 | cons h t=>
  rw [hb] at h1
  injection h1 with a b
  refine ⟨h,t,rfl,a,fun y hy=>h2 _ ?_⟩
  have b':t.map (·.kind) = ks:=b
  rw [← b']
  exact List.mem_map.2 ⟨y,hy,rfl⟩
theorem next_head {L:List Scene}:∀ y t,(L.map blocksS).flatten = y :: t → y.kind = 0:=by
 cases L with
 | nil=>intro y t h; cases h
 | cons x L=>
  intro y t h
  obtain ⟨a,r,e,hk,_⟩:=blocks_shape x
  rw [List.map_cons,List.flatten_cons,e,List.cons_append] at h
  injection h with h1 _
  rw [← h1]; exact hk
theorem need_scene (b:Blk) (r:List Blk) (L:List Scene):needB b (r ++ (L.map blocksS).flatten) = needB b r:=needB_app b r _ next_head
theorem need_zero {b:Blk} {r:List Blk} (h:¬ b.kind = 0):needB b r = leastB b:=by unfold needB; rw [if_neg h]; rfl
theorem need_head {b y:Blk} {t:List Blk} (h:b.kind = 0) (hy:¬ y.kind = 0):needB b (y :: t) = leastB b + (1 + leastB y):=by unfold needB; rw [if_pos h]; simp [hy]
theorem need_last {b:Blk} (h:b.kind = 0):needB b [] = leastB b:=by unfold needB; rw [if_pos h]; rfl
end
end Go.Proofs.YtaoobkgepcikiaaGreatDoor
