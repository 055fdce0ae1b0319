/- Texts packed: SheE. -/
import Derived.Test.YtaoobkgepcikiaaGreatDoorSc40
import Derived.Test.YtaoobkgepcikiaaGreatDoorSc39
namespace Go.Proofs.YtaoobkgepcikiaaGreatDoor
set_option linter.unusedVariables false
open Go.RowKit Go.Sort
theorem fillB_54 {b:Blk} (hb:GoodB b):∀ (m f:Nat) (P:List (List ByteArray)) (pg:List ByteArray),RoomOk b f (54 - pg.length) → pg.length ≤ 54 → b.lines.length - f < m → (fillB b m f P pg).2.length ≤ 54
 | 0,_,_,_,_,_,h=>by omega
 | m + 1,f,P,pg,hr,hp,h1=>by
  by_cases h:b.lines.length - f ≤ 54 - pg.length
  ·rw [fillB_end h]
   show (pg ++ b.lines.drop f).length ≤ 54
   rw [List.length_append,List.length_drop]
   omega
  ·rw [fillB_more hb hr h]
   obtain ⟨s1,s2,s3,_⟩:=stopB_brk hb hr h
   exact fillB_54 hb m _ _ _ (room_next (by omega)) (by split <;> simp) (by omega)
theorem putB_inv {b:Blk} (hb:GoodB b) (r:List Blk) (q:PgQ) (h54:q.2.length ≤ 54):¬ (putB b r q).1.2 = [] ∧ (putB b r q).1.2.length ≤ 54:=by
 have hp:=hb.pos
 unfold putB
 dsimp only
 cases ht:topB b r q.2 with
 | true=>
  rw [if_pos rfl]
  exact ⟨fillB_page hb _ 0 _ _ (room_top b) (by omega) (by omega),fillB_54 hb _ 0 _ _ (room_top b) (by decide) (by omega)⟩
 | false=>
  have hroom:=room_first (b:=b) (r:=r) (pg:=q.2) ht
  have hno:¬ (q.2 = [] ∨ 54 < q.2.length + b.gap + needB b r):=fun k=>by rw [putB_top.2 k] at ht; cases ht
  have h5:¬ 54 < q.2.length + b.gap + needB b r:=fun k=>hno (.inr k)
  rw [if_neg (c:=false = true) (by simp)]
  exact ⟨fillB_page hb _ 0 _ _ hroom (by omega) (by omega),fillB_54 hb _ 0 _ _ hroom (by rw [List.length_append,List.length_replicate]; omega) (by omega)⟩
def NmOk (b:Blk):Prop:=b.kind = 3 → b.lines.head? = some (indS 20 b.name)
theorem blkPara_nm {l:List Blk} {p:Para} (h:∀ b ∈ l,NmOk b):∀ b ∈ blkPara l p,NmOk b:=by
 have hpush:∀ b:Blk,NmOk b → ∀ c ∈ l ++ [b],NmOk c:=fun b hb c hc=>by
  rcases List.mem_append.1 hc with hc | hc
  ·exact h c hc
  ·rw [List.mem_singleton.1 hc]; exact hb
 have hput:∀ kd at_ (ls:List ByteArray),∀ c ∈ l.modify (l.length - 1) (fun b=>b.put kd at_ ls),NmOk c:=fun kd at_ ls c hc=>by
  obtain ⟨j,hj⟩:=List.mem_iff_getElem?.1 hc
  rw [List.getElem?_modify] at hj
  cases hz:l[j]? with
  | none=>rw [hz] at hj; cases hj
  | some y=>
   have hy:=h y (List.mem_iff_getElem?.2 ⟨j,hz⟩)
   rw [hz] at hj
   by_cases e:l.length - 1 = j
   ·simp [e] at hj
    subst hj
    intro h3
    have h4:=hy h3
    show (y.lines ++ ls.map (indS at_)).head? = some (indS 20 y.name)
    rw [List.head?_append,h4]
    rfl
   ·simp [e] at hj
    subst hj
    exact hy
 unfold blkPara
 split
 ·exact hpush _ (fun k=>by cases k)
 ·split
  ·exact hpush _ (fun k=>by cases k)
  ·split
   ·exact hpush _ (fun _=>rfl)
   ·split
    ·exact hput _ _ _
    ·split
     ·exact hput _ _ _
     ·exact h
theorem fold_nm:∀ (ps:List Para) (l:List Blk),(∀ b ∈ l,NmOk b) → ∀ b ∈ ps.foldl blkPara l,NmOk b
 | [],_,h=>h
 | _ :: r,_,h=>fold_nm r _ (blkPara_nm h)
theorem blocks_nm (x:Scene):∀ b ∈ blocksS x,NmOk b:=fold_nm x.paras _ (fun b hb=>by
 rw [List.mem_singleton.1 hb]
 intro k
 cases k)
theorem flat_nm (xs:List Scene):∀ b ∈ (xs.map blocksS).flatten,NmOk b:=fun b hb=>by
 obtain ⟨l,hl,hb⟩:=List.mem_flatten.1 hb
 obtain ⟨x,_,rfl⟩:=List.mem_map.1 hl
 exact blocks_nm x b hb
def EqL (rest:List Blk) (q:PgQ) (A:List (List ByteArray)) (B:List ByteArray):Prop:=(layB rest q.1 q.2 []).1 = A ∧ (layB rest q.1 q.2 []).2.1 = B
theorem EqL.step {b:Blk} {rest:List Blk} {q:PgQ} {A:List (List ByteArray)} {B:List ByteArray} (h:EqL (b :: rest) q A B):EqL rest (putB b rest q).1 A B:=by
 obtain ⟨h1,h2⟩:=h
 rw [show layB (b :: rest) q.1 q.2 [] = layB rest (putB b rest q).1.1 (putB b rest q).1.2 ([] ++ [(putB b rest q).2]) from rfl] at h1 h2
 obtain ⟨a1,a2,_⟩:=layB_st rest (putB b rest q).1.1 (putB b rest q).1.2 ([] ++ [(putB b rest q).2])
 exact ⟨a1.symm.trans h1,a2.symm.trans h2⟩
theorem rbAt {w:World} {F:Nat → Prop} {l:List BkT} {A:Option Addr} {n c:Nat} (h:Sli rbR w F l (.slice A n c)) (k:Nat) (hk:k < l.length):∃ b off,A = some ⟨b,off,none⟩ ∧ F b ∧ w.cell? ⟨b,off + k * 3,none⟩ = some (.int .i64 (rkN l[k].1.kind)) ∧ w.cell? ⟨b,off + k * 3 + 1,none⟩ = some l[k].2.1 ∧ w.cell? ⟨b,off + k * 3 + 2,none⟩ = some l[k].2.2:=by
 obtain ⟨b,off,a,e,hb,hr,hc⟩:=h.at_ k hk
 have ha:a = [.int .i64 (rkN l[k].1.kind),l[k].2.1,l[k].2.2]:=hr
 subst ha
 exact ⟨b,off,e,hb,hc 0 _ rfl,hc 1 _ rfl,hc 2 _ rfl⟩
def stRow (st:List Nat) (v:Value):Row:=(3,st.map (fun k:Nat=>Value.int .i64 (k:Int)),v)
def tpRow (tp:List Value) (v:Value):Row:=(4,tp,v)
section
variable {w wx:World} {o:Nat} {Qs:List PgL} {v sV tV:Value} {st:List Nat} {tp:List Value} {X:List Pc}
theorem ShM.fronts (h:ShM w o Qs v [stRow st sV,tpRow tp tV] X wx):MR w (stRow st sV :: ((31,Qs.map (·.2),v) :: Qs.map rowP ++ [tpRow tp tV])) ((o,#[v],160) :: X) wx:=
 MR.pick (a:=(31,Qs.map (·.2),v) :: Qs.map rowP) (r:=stRow st sV) (b:=[tpRow tp tV]) h.mr
theorem ShM.frontt (h:ShM w o Qs v [stRow st sV,tpRow tp tV] X wx):MR w (tpRow tp tV :: ((31,Qs.map (·.2),v) :: Qs.map rowP ++ [stRow st sV])) ((o,#[v],160) :: X) wx:=by
 have h2:=h.mr
 rw [show [stRow st sV,tpRow tp tV] = [stRow st sV] ++ [tpRow tp tV] from rfl,← List.append_assoc] at h2
 have h3:=MR.pick (a:=(31,Qs.map (·.2),v) :: (Qs.map rowP ++ [stRow st sV])) (r:=tpRow tp tV) (b:=[]) h2
 rw [List.append_nil] at h3
 exact h3
theorem ShM.backs (h:MR w (stRow st sV :: ((31,Qs.map (·.2),v) :: Qs.map rowP ++ [tpRow tp tV])) ((o,#[v],160) :: X) wx) (hne:∀ x ∈ X,x.1 ≠ o):ShM w o Qs v [stRow st sV,tpRow tp tV] X wx:=
 ⟨MR.unpick (a:=(31,Qs.map (·.2),v) :: Qs.map rowP) (r:=stRow st sV) (b:=[tpRow tp tV]) h,hne⟩
theorem ShM.backt (h:MR w (tpRow tp tV :: ((31,Qs.map (·.2),v) :: Qs.map rowP ++ [stRow st sV])) ((o,#[v],160) :: X) wx) (hne:∀ x ∈ X,x.1 ≠ o):ShM w o Qs v [stRow st sV,tpRow tp tV] X wx:=by
 refine ⟨?_,hne⟩
 rw [show [stRow st sV,tpRow tp tV] = [stRow st sV] ++ [tpRow tp tV] from rfl,← List.append_assoc]
 have h3:=MR.unpick (a:=(31,Qs.map (·.2),v) :: (Qs.map rowP ++ [stRow st sV])) (r:=tpRow tp tV) (b:=[]) (by rw [List.append_nil]; exact h)
 exact h3
end
end Go.Proofs.YtaoobkgepcikiaaGreatDoor
