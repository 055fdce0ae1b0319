/- Texts packed: ChkE. -/
import Derived.Test.YtaoobkgepcikiaaGreatDoorSc08
namespace Go.Proofs.YtaoobkgepcikiaaGreatDoor
set_option linter.unusedVariables false
open Go.RowKit
abbrev namSS:ByteArray:=⟨#[65,66,67,68,69,70,71,72,73,74,75,76,77,78,79,80,81,82,83,84,85,86,87,88,89,90,48,49,50,51,52,53,54,55,56,57,32,39,46,45]⟩
theorem nam_ascii:(namSS.data.toList.all fun b=>decide (b.toNat < 128)) = true:=by decide +kernel
theorem nam_size:namSS.size ≤ 1000:=by decide +kernel
theorem nam_made (s:ByteArray):allB (namSS.data.toList.contains ·) s = allB (proC (⟨#[39,46,45]⟩:ByteArray).data.toList) s:=allB_congr (by decide +kernel) s
set_option maxRecDepth 100000 in
set_option maxHeartbeats 4000000 in
theorem NameOf_c (s:ByteArray) (w:World) (hs:s.size ≤ 1000000) (hsp:SpLaid w):Calls Tryz.prog 173 #[.string s] w fun e w'=>e = .returned (.bool (nameB s)) ∧ Below w.heap.size w w':=by
 have HLO:=Lib.hid (long_c s 1 30 w (by omega))
 have HPL:=Lib.hid (plainR_c s w (by omega) hsp)
 have HM1:=Lib.hid (fun W=>made_c s namSS W (by omega) nam_size nam_ascii)
 have HM2:=Lib.hid (fun W=>made_c (s.extract 0 1) capsS W (by rw [ByteArray.size_extract]; omega) caps_size caps_ascii)
 clear hsp
 have HSB:=Lib.hid (show nameB s = proB s 30 ⟨#[39,46,45]⟩ from rfl)
 by_cases h0:s.size = 0 ∨ 30 < s.size
 ·have HR:=Lib.hid (show nameB s = false by rw [HSB.out,proB_no (by rcases h0 with h | h; exact .inl h; exact .inr (.inl h))])
  have hlo:(decide ((1:Int) ≤ s.size) && decide ((s.size:Int) ≤ 30)) = false:=by
   rcases h0 with h | h
   ·rw [decide_eq_false (by omega)]; rfl
   ·rw [decide_eq_false (p:=(s.size:Int) ≤ 30) (by omega)]; simp
  clear h0
  go_enter Tryz.func173,Tryz.ntmps173
  go_wp2_with (first | (go_at_call 55; with_reducible refine HLO.out.mono ?_; rintro e w' ⟨rfl,rfl⟩; rw [hlo]) | fail)
  go_ret
  exact ⟨ret_bool HR.out.symm,Below.refl _ _⟩
 have hlo:(decide ((1:Int) ≤ s.size) && decide ((s.size:Int) ≤ 30)) = true:=by rw [decide_eq_true (by omega),decide_eq_true (by omega)]; rfl
 have hp:0 < s.size:=by omega
 have hp1:(1:Int) ≤ s.size:=by omega
 cases hpl:plainB s with
 | false=>
  have HR:=Lib.hid (show nameB s = false by rw [HSB.out,proB_no (.inr (.inr (.inr (.inl hpl))))])
  go_enter Tryz.func173,Tryz.ntmps173
  go_wp2_with (first | (go_at_call 55; with_reducible refine HLO.out.mono ?_; rintro e w' ⟨rfl,rfl⟩; rw [hlo]) | (go_at_call 56; with_reducible refine HPL.out.mono ?_; rintro e w2 ⟨rfl,hb2⟩; rw [hpl]) | fail)
  go_ret
  exact ⟨ret_bool HR.out.symm,hb2⟩
 | true=>
 have hset:=nam_made s
 cases hpc:allB (proC (⟨#[39,46,45]⟩:ByteArray).data.toList) s with
 | false=>
  have HR:=Lib.hid (show nameB s = false by rw [HSB.out,proB_no (.inr (.inr (.inr (.inr hpc))))])
  rw [hpc] at hset
  go_enter Tryz.func173,Tryz.ntmps173
  go_wp2_with (first | (go_at_call 55; with_reducible refine HLO.out.mono ?_; rintro e w' ⟨rfl,rfl⟩; rw [hlo]) | (go_at_call 56; with_reducible refine HPL.out.mono ?_; rintro e w2 ⟨rfl,hb2⟩; rw [hpl]) | (go_at_call 82; with_reducible refine (HM1.out w2).mono ?_; rintro e w3 ⟨rfl,hb3⟩; rw [hset]) | fail)
  go_ret
  exact ⟨ret_bool HR.out.symm,hb2.trans (hb3.mono hb2.size)⟩
 | true=>
 rw [hpc] at hset
 have hcf:=cap_first hp
 have hex:(s.extract 0 1).size ≤ 1000000:=by rw [ByteArray.size_extract]; omega
 have HR:=Lib.hid (show nameB s = capB s[0] by
  cases hcp:capB s[0] with
  | false=>rw [HSB.out,proB_no (.inr (.inr (.inl ⟨hp,hcp⟩)))]
  | true=>rw [HSB.out,proB_yes hp (by omega) hcp hpl hpc])
 generalize capB s[0] = cp at *
 go_enter Tryz.func173,Tryz.ntmps173
 go_wp2_with (first | (go_at_call 55; with_reducible refine HLO.out.mono ?_; rintro e w' ⟨rfl,rfl⟩; rw [hlo]) | (go_at_call 56; with_reducible refine HPL.out.mono ?_; rintro e w2 ⟨rfl,hb2⟩; rw [hpl]) | (go_at_call 82; with_reducible refine (HM1.out w2).mono ?_; rintro e w3 ⟨rfl,hb3⟩; rw [hset]) | (go_at_call 82; with_reducible refine (HM2.out w3).mono ?_; rintro e w4 ⟨rfl,hb4⟩; rw [hcf]) | fail)
 go_ret
 exact ⟨ret_bool HR.out.symm,(hb2.trans (hb3.mono hb2.size)).trans (hb4.mono (hb2.trans (hb3.mono hb2.size)).size)⟩
abbrev turSS:ByteArray:=⟨#[65,66,67,68,69,70,71,72,73,74,75,76,77,78,79,80,81,82,83,84,85,86,87,88,89,90,32,46]⟩
theorem tur_ascii:(turSS.data.toList.all fun b=>decide (b.toNat < 128)) = true:=by decide +kernel
theorem tur_size:turSS.size ≤ 1000:=by decide +kernel
theorem tur_made (s:ByteArray):allB (turSS.data.toList.contains ·) s = allB turnC s:=allB_congr (by decide +kernel) s
theorem eqF (a c:Int):(a = c ∧ (a == c) = true ∧ (a != c) = false) ∨ (¬ a = c ∧ (a == c) = false ∧ (a != c) = true):=by
 by_cases h:a = c
 ·exact .inl ⟨h,beq_iff_eq.2 h,by rw [bne,beq_iff_eq.2 h]; rfl⟩
 ·exact .inr ⟨h,beq_eq_false_iff_ne.2 h,by rw [bne_iff_ne]; exact h⟩
def PrP (p:Para) (b:Int) (w:World) (e:Ending) (w':World):Prop:=e = .returned (.int .i64 (paraRE b p)) ∧ Below w.heap.size w w'
theorem PrP.mk {p:Para} {b q:Int} {w w':World} (h:paraRE b p = q) (hb:Below w.heap.size w w'):PrP p b w (.returned (.int .i64 q)) w':=⟨by rw [h],hb⟩
theorem paraRE_in {k b:Int} {s:ByteArray} (h1:1 ≤ k) (h2:k ≤ 5) (h3:¬ s.size = 0) (h4:plainB s = true) (h5:¬ (if k = 3 then 200 else 2000) < s.size):paraRE b ⟨k,s⟩ =
  if k = 2 ∧ nameB s = false then 5 else if k = 3 ∧ brB s = true then 3 else if k = 5 ∧ turnB s = false then 3
  else if k = 3 ∧ ¬ b = 2 ∧ ¬ b = 4 then 7 else if k = 4 ∧ (b = 1 ∨ b = 5 ∨ b = 0) then 7 else if (b = 2 ∨ b = 3) ∧ ¬ k = 3 ∧ ¬ k = 4 then 7 else 0:=by
 unfold paraRE
 rw [if_neg (by dsimp only; omega),if_neg (by dsimp only; rintro (h | h); exact h3 h; rw [h4] at h; cases h),if_neg h5]
set_option maxRecDepth 100000 in
set_option maxHeartbeats 8000000 in
theorem paraFaultR_c (p:Para) (before:Int) (w:World) (hs:p.text.size ≤ 1000000) (hsp:SpLaid w):Calls Tryz.prog 116 #[.agg #[.int .i64 p.kind,.string p.text],.int .i64 before] w (PrP p before w):=by
 obtain ⟨kind,s⟩:=p
 dsimp only at hs ⊢
 have HB:=Lib.hid ((Below.refl w.heap.size w).alloc (Nat.le_refl _) (.cells #[.int .i64 kind,.string s] 78))
 have HPL:=Lib.hid (plainR_c s (w.alloc (.cells #[.int .i64 kind,.string s] 78)) (by omega) (sp_below hsp HB.out (Nat.le_refl _)))
 have HNA:=Lib.hid (fun (W:World) (hb:Below w.heap.size w W)=>NameOf_c s W hs (sp_below hsp hb (Nat.le_refl _)))
 have HMA:=Lib.hid (fun W=>made_c s turSS W (by omega) tur_size tur_ascii)
 have HY:=Lib.hid (fun (W:World) (hb:Below (w.alloc (.cells #[.int .i64 kind,.string s] 78)).heap.size (w.alloc (.cells #[.int .i64 kind,.string s] 78)) W)=>show W.cell? ⟨w.heap.size,0,none⟩ = some (.int .i64 kind) ∧ W.cell? ⟨w.heap.size,1,none⟩ = some (.string s) by
  obtain ⟨y,_⟩:=str_cells ((hb.block w.heap.size (by simp)).trans (heap_alloc_new w _))
  exact ⟨y 0,y 1⟩)
 clear hsp
 by_cases k1:kind < 1
 ·have HR:=Lib.hid (show paraRE before ⟨kind,s⟩ = 4 from if_pos (.inl k1))
  go_enter Tryz.func116,Tryz.ntmps116
  go_wp2
  go_ret
  exact PrP.mk HR.out HB.out
 have k1':1 ≤ kind:=by omega
 by_cases k2:5 < kind
 ·have HR:=Lib.hid (show paraRE before ⟨kind,s⟩ = 4 from if_pos (.inr k2))
  clear k1
  go_enter Tryz.func116,Tryz.ntmps116
  go_wp2
  go_ret
  exact PrP.mk HR.out HB.out
 have k2':kind ≤ 5:=by omega
 clear k1 k2
 cases he:s.toList.isEmpty with
 | true=>
  have hse:s.size = 0:=by rw [(empty_iff s).1 he]; rfl
  have HR:=Lib.hid (show paraRE before ⟨kind,s⟩ = 3 from (if_neg (by dsimp only; omega)).trans (if_pos (.inl hse)))
  clear hse
  rcases eqF kind 3 with ⟨q,q1,q2⟩ | ⟨q,q1,q2⟩
  all_goals
   clear q
   go_enter Tryz.func116,Tryz.ntmps116
   go_wp2
   go_ret
   exact PrP.mk HR.out HB.out
 | false=>
 have hse:¬ s.size = 0:=fun h=>by
  have:s = ⟨#[]⟩:=by rcases s with ⟨⟨l⟩⟩; cases l with | nil=>rfl | cons c r=>exact absurd h (by show ¬ (r.length + 1 = 0); omega)
  rw [(empty_iff s).2 this] at he; cases he
 cases hpl:plainB s with
 | false=>
  have HR:=Lib.hid (show paraRE before ⟨kind,s⟩ = 3 from (if_neg (by dsimp only; omega)).trans (if_pos (.inr hpl)))
  clear hse
  rcases eqF kind 3 with ⟨q,q1,q2⟩ | ⟨q,q1,q2⟩
  all_goals
   clear q
   go_enter Tryz.func116,Tryz.ntmps116
   go_wp2_with (first | (go_at_call 56; with_reducible refine HPL.out.mono ?_; rintro e w2 ⟨rfl,hb2⟩; rw [hpl]) | fail)
   go_ret
   exact PrP.mk HR.out (HB.out.trans (hb2.mono (by simp)))
 | true=>
 have HIN:=Lib.hid (fun (h5:¬ (if kind = 3 then 200 else 2000) < s.size)=>paraRE_in (b:=before) k1' k2' hse hpl h5)
 have HLG:=Lib.hid (fun (h5:(if kind = 3 then 200 else 2000) < s.size)=>show paraRE before ⟨kind,s⟩ = 2 by unfold paraRE; rw [if_neg (by dsimp only; omega),if_neg (by dsimp only; rintro (h | h); exact hse h; rw [hpl] at h; cases h),if_pos h5])
 have HCA:=Lib.hid (fun W=>Tryz.strings_ContainsAny_laid s ⟨#[40,41]⟩ W (by omega) (by decide) (plain_ascii hpl) (by
  intro j b hj
  have h:((⟨#[40,41]⟩:ByteArray).data.toList.all fun b=>decide (b.toNat < 128)) = true:=by decide
  rw [List.all_eq_true] at h
  simpa using h b (List.mem_of_getElem? hj)))
 clear hse
 have hk:kind = 1 ∨ kind = 2 ∨ kind = 3 ∨ kind = 4 ∨ kind = 5:=by omega
 clear k1' k2'
 rcases hk with rfl | rfl | rfl | rfl | rfl
 ·go_enter Tryz.func116,Tryz.ntmps116
  go_wp2_with fail
  with_reducible refine HPL.out.mono ?_
  rintro e w2 ⟨rfl,hb2⟩
  rw [hpl]
  obtain ⟨c0,c1⟩:=HY.out w2 hb2
  have HB2:=Lib.hid (HB.out.trans (hb2.mono (by simp)))
  clear hb2
  by_cases k3:2000 < s.size
  ·have HR:=Lib.hid (HLG.out k3)
   have k3':(2000:Int) < s.size:=by omega
   go_wp2
   go_ret
   exact PrP.mk HR.out HB2.out
  have k3':(s.size:Int) ≤ 2000:=by omega
  have HR1:=Lib.hid (HIN.out k3)
  clear k3
  rcases eqF before 2 with ⟨q,q1,q2⟩ | ⟨q,q1,q2⟩
  ·have HR:=Lib.hid (HR1.out.trans (show _ = (7:Int) by subst q; rfl))
   clear q
   go_wp2
   go_ret
   exact PrP.mk HR.out HB2.out
  rcases eqF before 3 with ⟨r,r1,r2⟩ | ⟨r,r1,r2⟩
  ·have HR:=Lib.hid (HR1.out.trans (show _ = (7:Int) by subst r; rfl))
   clear q r
   go_wp2
   go_ret
   exact PrP.mk HR.out HB2.out
  ·have HR:=Lib.hid (HR1.out.trans (show _ = (0:Int) by simp [q,r]))
   clear q r
   go_wp2
   go_ret
   exact PrP.mk HR.out HB2.out
 ·go_enter Tryz.func116,Tryz.ntmps116
  go_wp2_with fail
  with_reducible refine HPL.out.mono ?_
  rintro e w2 ⟨rfl,hb2⟩
  rw [hpl]
  obtain ⟨c0,c1⟩:=HY.out w2 hb2
  have hz2:w.heap.size < w2.heap.size:=Nat.lt_of_lt_of_le (by simp) hb2.size
  have HB2:=Lib.hid (HB.out.trans (hb2.mono (by simp)))
  have HY2:=Lib.hid (fun (W:World) (hb:Below w2.heap.size w2 W)=>HY.out W (hb2.trans (hb.mono hb2.size)))
  have HNA2:=Lib.hid (HNA.out w2 HB2.out)
  clear hb2
  by_cases k3:2000 < s.size
  ·have HR:=Lib.hid (HLG.out k3)
   have k3':(2000:Int) < s.size:=by omega
   go_wp2
   go_ret
   exact PrP.mk HR.out HB2.out
  have k3':(s.size:Int) ≤ 2000:=by omega
  have HR1:=Lib.hid (HIN.out k3)
  clear k3
  go_wp2_with fail
  with_reducible refine HNA2.out.mono ?_
  rintro e w3 ⟨rfl,hb3⟩
  obtain ⟨d0,d1⟩:=HY2.out w3 hb3
  have HB3:=Lib.hid (HB2.out.trans (hb3.mono HB2.out.size))
  clear hb3
  cases hna:nameB s with
  | false=>
   have HR:=Lib.hid (HR1.out.trans (show _ = (5:Int) by simp [hna]))
   go_wp2
   go_ret
   exact PrP.mk HR.out HB3.out
  | true=>
  rcases eqF before 2 with ⟨q,q1,q2⟩ | ⟨q,q1,q2⟩
  ·have HR:=Lib.hid (HR1.out.trans (show _ = (7:Int) by subst q; rw [hna]; rfl))
   clear q
   go_wp2
   go_ret
   exact PrP.mk HR.out HB3.out
  rcases eqF before 3 with ⟨r,r1,r2⟩ | ⟨r,r1,r2⟩
  ·have HR:=Lib.hid (HR1.out.trans (show _ = (7:Int) by subst r; rw [hna]; rfl))
   clear q r
   go_wp2
   go_ret
   exact PrP.mk HR.out HB3.out
  ·have HR:=Lib.hid (HR1.out.trans (show _ = (0:Int) by simp [q,r,hna]))
   clear q r
   go_wp2
   go_ret
   exact PrP.mk HR.out HB3.out
 ·go_enter Tryz.func116,Tryz.ntmps116
  go_wp2_with fail
  with_reducible refine HPL.out.mono ?_
  rintro e w2 ⟨rfl,hb2⟩
  rw [hpl]
  obtain ⟨c0,c1⟩:=HY.out w2 hb2
  have hz2:w.heap.size < w2.heap.size:=Nat.lt_of_lt_of_le (by simp) hb2.size
  have HB2:=Lib.hid (HB.out.trans (hb2.mono (by simp)))
  have HY2:=Lib.hid (fun (W:World) (hb:Below w2.heap.size w2 W)=>HY.out W (hb2.trans (hb.mono hb2.size)))
  clear hb2
  by_cases k3:200 < s.size
  ·have HR:=Lib.hid (HLG.out k3)
   have k3':(200:Int) < s.size:=by omega
   go_wp2
   go_ret
   exact PrP.mk HR.out HB2.out
  have k3':(s.size:Int) ≤ 200:=by omega
  have HR1:=Lib.hid (HIN.out k3)
  clear k3
  go_wp2_with fail
  with_reducible refine (HCA.out w2).mono ?_
  rintro e w3 ⟨rfl,hb3⟩
  obtain ⟨d0,d1⟩:=HY2.out w3 hb3
  have HB3:=Lib.hid (HB2.out.trans (hb3.mono HB2.out.size))
  clear hb3
  rw [show Lib.containsAny s.data.toList (⟨#[40,41]⟩:ByteArray).data.toList = brB s from rfl]
  cases hbr:brB s with
  | true=>
   have HR:=Lib.hid (HR1.out.trans (show _ = (3:Int) by simp [hbr]))
   go_wp2
   go_ret
   exact PrP.mk HR.out HB3.out
  | false=>
  rcases eqF before 2 with ⟨q,q1,q2⟩ | ⟨q,q1,q2⟩
  ·have HR:=Lib.hid (HR1.out.trans (show _ = (0:Int) by subst q; rw [hbr]; rfl))
   clear q
   go_wp2
   go_ret
   exact PrP.mk HR.out HB3.out
  rcases eqF before 4 with ⟨r,r1,r2⟩ | ⟨r,r1,r2⟩
  ·have HR:=Lib.hid (HR1.out.trans (show _ = (0:Int) by subst r; rw [hbr]; rfl))
   have r3:(before == 3) = false:=beq_eq_false_iff_ne.2 (by omega)
   clear q r
   go_wp2
   go_ret
   exact PrP.mk HR.out HB3.out
  ·have HR:=Lib.hid (HR1.out.trans (show _ = (7:Int) by simp [q,r,hbr]))
   clear q r
   go_wp2
   go_ret
   exact PrP.mk HR.out HB3.out
 ·go_enter Tryz.func116,Tryz.ntmps116
  go_wp2_with fail
  with_reducible refine HPL.out.mono ?_
  rintro e w2 ⟨rfl,hb2⟩
  rw [hpl]
  obtain ⟨c0,c1⟩:=HY.out w2 hb2
  have HB2:=Lib.hid (HB.out.trans (hb2.mono (by simp)))
  clear hb2
  by_cases k3:2000 < s.size
  ·have HR:=Lib.hid (HLG.out k3)
   have k3':(2000:Int) < s.size:=by omega
   go_wp2
   go_ret
   exact PrP.mk HR.out HB2.out
  have k3':(s.size:Int) ≤ 2000:=by omega
  have HR1:=Lib.hid (HIN.out k3)
  clear k3
  rcases eqF before 1 with ⟨q,q1,q2⟩ | ⟨q,q1,q2⟩
  ·have HR:=Lib.hid (HR1.out.trans (show _ = (7:Int) by subst q; rfl))
   clear q
   go_wp2
   go_ret
   exact PrP.mk HR.out HB2.out
  rcases eqF before 5 with ⟨r,r1,r2⟩ | ⟨r,r1,r2⟩
  ·have HR:=Lib.hid (HR1.out.trans (show _ = (7:Int) by subst r; rfl))
   clear q r
   go_wp2
   go_ret
   exact PrP.mk HR.out HB2.out
  rcases eqF before 0 with ⟨t,t1,t2⟩ | ⟨t,t1,t2⟩
  ·have HR:=Lib.hid (HR1.out.trans (show _ = (7:Int) by subst t; rfl))
   clear q r t
   go_wp2
   go_ret
   exact PrP.mk HR.out HB2.out
  have HR:=Lib.hid (HR1.out.trans (show _ = (0:Int) by simp [q,r,t]))
  clear q r t
  rcases eqF before 2 with ⟨u,u1,u2⟩ | ⟨u,u1,u2⟩
  ·clear u
   go_wp2
   go_ret
   exact PrP.mk HR.out HB2.out
  rcases eqF before 3 with ⟨x,x1,x2⟩ | ⟨x,x1,x2⟩
  all_goals
   clear u x
   go_wp2
   go_ret
   exact PrP.mk HR.out HB2.out
 ·go_enter Tryz.func116,Tryz.ntmps116
  go_wp2_with fail
  with_reducible refine HPL.out.mono ?_
  rintro e w2 ⟨rfl,hb2⟩
  rw [hpl]
  obtain ⟨c0,c1⟩:=HY.out w2 hb2
  have hz2:w.heap.size < w2.heap.size:=Nat.lt_of_lt_of_le (by simp) hb2.size
  have HB2:=Lib.hid (HB.out.trans (hb2.mono (by simp)))
  have HY2:=Lib.hid (fun (W:World) (hb:Below w2.heap.size w2 W)=>HY.out W (hb2.trans (hb.mono hb2.size)))
  clear hb2
  by_cases k3:2000 < s.size
  ·have HR:=Lib.hid (HLG.out k3)
   have k3':(2000:Int) < s.size:=by omega
   go_wp2
   go_ret
   exact PrP.mk HR.out HB2.out
  have k3':(s.size:Int) ≤ 2000:=by omega
  have HR1:=Lib.hid (HIN.out k3)
  clear k3
  go_wp2_with fail
  with_reducible refine (HMA.out w2).mono ?_
  rintro e w3 ⟨rfl,hb3⟩
  rw [tur_made]
  obtain ⟨d0,d1⟩:=HY2.out w3 hb3
  have HB3:=Lib.hid (HB2.out.trans (hb3.mono HB2.out.size))
  clear hb3
  cases htc:allB turnC s with
  | false=>
   have h7:turnB s = false:=by unfold turnB; rw [htc]; rfl
   have HR:=Lib.hid (HR1.out.trans (show _ = (3:Int) by simp [h7]))
   clear h7
   go_wp2
   go_ret
   exact PrP.mk HR.out HB3.out
  | true=>
  by_cases k4:40 < s.size
  ·have h7:turnB s = false:=by unfold turnB; rw [htc,decide_eq_false (by omega)]; rfl
   have HR:=Lib.hid (HR1.out.trans (show _ = (3:Int) by simp [h7]))
   clear h7
   have k4':(40:Int) < s.size:=by omega
   go_wp2
   go_ret
   exact PrP.mk HR.out HB3.out
  have htb:turnB s = true:=by unfold turnB; rw [htc,decide_eq_true (by omega)]; rfl
  have k4':(s.size:Int) ≤ 40:=by omega
  clear k4
  rcases eqF before 2 with ⟨q,q1,q2⟩ | ⟨q,q1,q2⟩
  ·have HR:=Lib.hid (HR1.out.trans (show _ = (7:Int) by subst q; rw [htb]; rfl))
   clear q htb
   go_wp2
   go_ret
   exact PrP.mk HR.out HB3.out
  rcases eqF before 3 with ⟨r,r1,r2⟩ | ⟨r,r1,r2⟩
  ·have HR:=Lib.hid (HR1.out.trans (show _ = (7:Int) by subst r; rw [htb]; rfl))
   clear q r htb
   go_wp2
   go_ret
   exact PrP.mk HR.out HB3.out
  ·have HR:=Lib.hid (HR1.out.trans (show _ = (0:Int) by simp [q,r,htb]))
   clear q r htb
   go_wp2
   go_ret
   exact PrP.mk HR.out HB3.out
end Go.Proofs.YtaoobkgepcikiaaGreatDoor
