/- Texts packed: StoryD. -/
import Derived.Test.YtaoobkgepcikiaaGreatDoorSc13
import Derived.Test.YtaoobkgepcikiaaGreatDoorSc01
import Derived.Test.YtaoobkgepcikiaaGreatDoorSc02
import Derived.Deep.RegionWith
import Derived.Deep.DeepCutAuto
import Derived.StillTailTactics
import Derived.Lib.Itoa
import Derived.Lib.ItoaNum
namespace Go.Proofs.YtaoobkgepcikiaaGreatDoor
set_option linter.unusedVariables false
open Go.RowKit Go.Sort
def noOf (k:Nat):ByteArray:=⟨(Lib.decDigits (k + 1)).toArray⟩
def setNo (z:ByteArray) (x:Scene × Value):Scene × Value:=({ x.1 with no:=z },x.2)
def numbTo:Nat → List (Scene × Value) → List (Scene × Value)
 | 0,l=>l
 | k + 1,l=>(numbTo k l).modify k (setNo (noOf k))
theorem numbTo_len (k:Nat) (l:List (Scene × Value)):(numbTo k l).length = l.length:=by
 induction k with
 | zero=>rfl
 | succ k ih=>rw [numbTo,List.length_modify,ih]
set_option maxRecDepth 100000 in
set_option maxHeartbeats 4000000 in
theorem Numbered_c {F:Nat → Prop} (t:ByteArray) (l:List (Scene × Value)) (v:Value) (w:World) (h:Sli svR w F l v) (hF:∀ q,F q → q < w.heap.size) (hl:l.length ≤ 95) (ho:∀ x ∈ l,∃ A n c,x.2 = .slice A n c) :
  Calls Tryz.prog 13 #[.agg (xCs t v)] w (fun e w'=>∃ v',e = .returned (.agg (xCs t v')) ∧ Own svR w' w.heap.size w.heap.size 46 (numbTo l.length l) v' ∧ Below w.heap.size w w'):=by
 obtain ⟨A,c,rfl,_,_⟩:=h.form
 have HS:=Lib.hid h
 have HO:=Lib.hid ho
 clear h ho
 rw [show xCs t (.slice A l.length c) = #[.string t,.slice A l.length c] from rfl]
 go_enter Tryz.func13,Tryz.ntmps13
 go_upto_region 1 with (fail)
 have hG:BO svR 46 w [] (.slice none 0 0) [(w.heap.size + 1,xCs ⟨#[]⟩ (.slice none 0 0),28),(w.heap.size,#[.string t,.slice A l.length c],28)] ((w.alloc (.cells #[.string t,.slice A l.length c] 28)).alloc (.cells (xCs ⟨#[]⟩ (.slice none 0 0)) 28)):=by
  have h:=((BO.start (R:=svR) (e:=46) w).new (#[.string t,.slice A l.length c]) 28).new (xCs ⟨#[]⟩ (.slice none 0 0)) 28
  rw [show (w.alloc (.cells #[.string t,.slice A l.length c] 28)).heap.size = w.heap.size + 1 by simp] at h
  exact h
 have hs:=(HS.out.alloc (.cells #[.string t,.slice A l.length c] 28) hF).alloc (.cells #[.string ⟨#[]⟩,.slice none 0 0] 28) (fun b hb=>by have:=hF b hb; simp; omega)
 have hRsz:((w.alloc (.cells #[.string t,.slice A l.length c] 28)).alloc (.cells #[.string ⟨#[]⟩,.slice none 0 0] 28)).heap.size = w.heap.size + 2:=by simp
 generalize hW:(w.alloc (.cells #[.string t,.slice A l.length c] 28)).alloc (.cells #[.string ⟨#[]⟩,.slice none 0 0] 28) = wR at hs hRsz ⊢
 rw [show (w.alloc (.cells #[.string t,.slice A l.length c] 28)).alloc (.cells (xCs ⟨#[]⟩ (.slice none 0 0)) 28) = wR from hW] at hG
 have G:=Lib.hid hG
 have HC:=Lib.hid (fun W (h:Sli svR W F l (.slice A l.length c))=>cloneScene_c l _ W h (by omega) HO.out)
 have HSR:=Lib.hid hs
 clear hG hs hW
 have c0:wR.cell? ⟨w.heap.size,0,none⟩ = some (.string t):=(G.out.cell (p:=(w.heap.size,#[.string t,.slice A l.length c],28)) (by simp)).1 0
 have c1:wR.cell? ⟨w.heap.size,1,none⟩ = some (.slice A l.length c):=(G.out.cell (p:=(w.heap.size,#[.string t,.slice A l.length c],28)) (by simp)).1 1
 have HN:=Lib.hid (fun (cs:Array Value)=>show BO svR 46 w [] (.slice none 0 0) [(w.heap.size + 2,cs,28),(w.heap.size + 1,xCs ⟨#[]⟩ (.slice none 0 0),28),(w.heap.size,#[.string t,.slice A l.length c],28)] (wR.drew.alloc (.cells cs 28)) by have h:=G.out.drew.new cs 28; rw [show wR.drew.heap.size = w.heap.size + 2 from hRsz] at h; exact h)
 go_cut [3] (fun p wx=>∃ X v',p = .pointer (some ⟨X,0,none⟩) ∧ Hid (BO svR 46 w l v' [(X,xCs t v',28),(w.heap.size + 1,xCs ⟨#[]⟩ (.slice none 0 0),28)] wx))
 case first=>
  go_region_with (go_at_call 32; refine (HC.out _ (by first | exact HSR.out.drew | exact HSR.out.drew.alloc _ (fun b hb=>by have:=hF b hb; show b < wR.heap.size; omega))).mono ?_; rintro e w3 ⟨v3,rfl,hown3,hb3⟩; obtain ⟨A3,c3,rfl,h31,h32⟩:=(hown3.sli (F:=fun _=>True) (fun _ _ _=>trivial) (fun _ _=>trivial)).form; have hz3:w.heap.size + 2 ≤ w3.heap.size:=(by have:=hb3.size; simp at this; omega); have hz4:w.heap.size < w3.heap.size:=(by omega); have d0:w3.cell? ⟨w.heap.size,0,none⟩ = some (.string t):=(hb3.cell (p:=⟨w.heap.size,0,none⟩) (by simp; omega)).trans (by first | exact c0 | exact (World.cell?_alloc_lt wR.drew _ ⟨w.heap.size,0,none⟩ (by show w.heap.size < wR.heap.size; omega)).trans c0); have d1:w3.cell? ⟨w.heap.size,1,none⟩ = some (.slice A l.length c):=(hb3.cell (p:=⟨w.heap.size,1,none⟩) (by simp; omega)).trans (by first | exact c1 | exact (World.cell?_alloc_lt wR.drew _ ⟨w.heap.size,1,none⟩ (by show w.heap.size < wR.heap.size; omega)).trans c1); obtain ⟨hc3,hf3⟩:=bcell hb3)
  all_goals
   go_wp2
   go_meet
   have hm3:=hown3.less (base':=w.heap.size) (lo':=w.heap.size) (by simp; omega)
   refine ⟨_,.slice A3 l.length c3,rfl,?_⟩
   first
    | exact Lib.hid (((G.out.drew.take hb3 hown3 hm3).new (xCs t (.slice A3 l.length c3)) 28).less (by simp))
    | exact Lib.hid (by have h1:=(HN.out (xCs ⟨#[]⟩ (.slice none 0 0))).take hb3 hown3 hm3; have h2:=h1.set (i:=0) svFlat (.string t) (by simp); have h3:=h2.set (i:=1) svFlat (.slice A3 l.length c3) (by simp); exact h3.less (by simp [xCs]))
 case rest=>
  clear G c0 c1 HN HSR hRsz HC
  obtain ⟨X,v',rfl,G⟩:=hcut
  obtain ⟨A3,c3,hv,h31,h32⟩:=(G.out.own.sli (F:=fun _=>True) (fun _ _ _=>trivial) (fun _ _=>trivial)).form
  subst hv
  clear h31 h32
  have c1:wc.cell? ⟨X,1,none⟩ = some (.slice A3 l.length c3):=(G.out.cell (p:=(X,xCs t (.slice A3 l.length c3),28)) (by simp)).1 1
  go_wp2
  go_loopw [14,4] (fun i _ wr=>∃ k:Nat,k ≤ l.length ∧ i = .int .i64 k ∧ Hid (BO svR 46 w (numbTo k l) (.slice A3 l.length c3) [(X,xCs t (.slice A3 l.length c3),28),(w.heap.size + 1,xCs ⟨#[]⟩ (.slice none 0 0),28)] wr)) (fun i _ _=>l.length - (intOf i).toNat)
  case atStart=>exact ⟨0,by omega,rfl,G⟩
  case round=>
   clear G c1
   obtain ⟨k,hk,rfl,HG⟩:=hrel
   by_cases hlt:k < l.length
   ·go_upto_region 5 with (fail)
    have hlen:=numbTo_len k l
    obtain ⟨g,cap,hv,hg1,hg2⟩:=Own.some_ HG.out.own (by omega)
    rw [hlen] at hv
    injection hv with hv1 _ hv3
    subst hv1
    subst hv3
    obtain ⟨old,d1,f1⟩:∃ old:ByteArray,wr.cell? ⟨g,k * 5,none⟩ = some (.string old) ∧ wr.frozen? ⟨g,k * 5,none⟩ = false:=by
     have h:=Own.cellAt HG.out.own k (by omega) 0 (by decide)
     exact ⟨_,h.1,h.2⟩
    have c1:wr.cell? ⟨X,1,none⟩ = some (.slice (some ⟨g,0,none⟩) l.length c3):=(HG.out.cell (p:=(X,xCs t (.slice (some ⟨g,0,none⟩) l.length c3),28)) (by simp)).1 1
    have hXlt:=HG.out.plt (p:=(X,xCs t (.slice (some ⟨g,0,none⟩) l.length c3),28)) (by simp)
    dsimp only at hXlt
    have HI:=Lib.hid (fun W=>show Calls Tryz.prog 14 #[.int .i64 ((k + 1:Nat):Int)] W fun e w'=>e = .returned (.string (noOf k)) ∧ w' = W from Tryz.strconv_Itoa_small (k + 1) (by omega) W)
    have ek:(((k + 1:Nat):Int)) = (k:Int) + 1:=by omega
    rw [ek] at HI
    have e1:IntKind.i64.wrap ((k:Int) + 1) = (k:Int) + 1:=IntWalk.i64_in _ (by omega)
    have HL:=Lib.hid hlen
    clear hlen
    refine wp_region_drewN_tail 8 (by kernel_rfl) (by kernel_rfl) ?_
    simp only [List.take_succ_cons,List.take_zero,List.drop_succ_cons,List.drop_zero]
    repeat (quiet_step ((go_at_call 14; exact Calls.quiet_of_same (HI.out _))))
    refine wpQuiet_nil ?_
    intro wx hwx
    obtain ⟨nqx,hwx⟩:=hwx
    subst hwx
    have G2:=Lib.hid ((HG.out.below (below_drewN (Below.refl _ _) nqx)).modify (enc:=fun x=>x.1.cells x.2) (setNo (noOf k)) k 0 (.string (noOf k)) (fun x=>rfl) (by decide) (by rw [HL.out]; exact hlt))
    clear HG HI
    go_wp2
    go_roundw
    case rel=>exact ⟨k + 1,by omega,intNum,G2⟩
    all_goals (try (simp [intOf] <;> omega))
   ·obtain rfl:k = l.length:=by omega
    have c0:=(HG.out.cell (p:=(X,xCs t (.slice A3 l.length c3),28)) (by simp)).1
    have e0:wr.cell? ⟨X,0,none⟩ = some (.string t):=c0 0
    have e1:wr.cell? ⟨X,1,none⟩ = some (.slice A3 l.length c3):=c0 1
    obtain ⟨d,f⟩:=HG.out.cell (p:=(w.heap.size + 1,xCs ⟨#[]⟩ (.slice none 0 0),28)) (by simp)
    have f0:wr.frozen? ⟨w.heap.size + 1,0,none⟩ = false:=f 0
    have f1:wr.frozen? ⟨w.heap.size + 1,1,none⟩ = false:=f 1
    have d0:wr.cell? ⟨w.heap.size + 1,0,none⟩ = some (.string ⟨#[]⟩):=d 0
    have d1:wr.cell? ⟨w.heap.size + 1,1,none⟩ = some (.slice none 0 0):=d 1
    clear f c0 d
    have q:=HG.out.less (Q:=[(w.heap.size + 1,xCs ⟨#[]⟩ (.slice none 0 0),28)]) (by simp)
    have q0:=q.set (i:=0) svFlat (.string t) (by simp)
    have q1:=Lib.hid (q0.set (i:=1) svFlat (.slice A3 l.length c3) (by simp))
    clear q q0
    go_wp2
    refine ⟨rfl,.agg (xCs t (.slice A3 l.length c3)),(by rw [results_cell1 rfl]; go_simp; rfl),?_⟩
    exact ⟨_,rfl,q1.out.own,q1.out.bel⟩
end Go.Proofs.YtaoobkgepcikiaaGreatDoor
