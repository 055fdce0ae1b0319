/- Texts packed: EqW, EqX, TmW, CopW, CutP, RdB. -/
import Derived.Test.YtndillbimibecaaGreatDoorSc05
import Derived.Test.YtndillbimibecaaGreatDoorSc01
import Derived.Test.YtndillbimibecaaGreatDoorSc19
import Derived.Deep.QuietTactic
import Derived.BigQuiet
import Derived.Test.YtndillbimibecaaGreatDoorSc17
import Derived.Test.YtndillbimibecaaGreatDoorSc14
import Derived.Test.YtndillbimibecaaGreatDoorSc15
import Derived.Test.YtndillbimibecaaGreatDoorSc18
import Derived.Test.YtndillbimibecaaGreatDoorSc09
import Derived.Test.YtndillbimibecaaGreatDoorSc16
/- Lists of paragraphs, scenes, scripts compared. -/
namespace Go.Proofs.YtndillbimibecaaGreatDoor
set_option linter.unusedVariables false
open Go.RowKit

instance : DecidableEq Para := fun a b => decidable_of_iff (a.kind = b.kind ∧ a.text = b.text) (by cases a; cases b; simp)
instance : DecidableEq Scene := fun a b => decidable_of_iff (a.no = b.no ∧ a.place = b.place ∧ a.set = b.set ∧ a.time = b.time ∧ a.paras = b.paras) (by cases a; cases b; simp)
instance : DecidableEq Script := fun a b => decidable_of_iff (a.title = b.title ∧ a.scenes = b.scenes) (by cases a; cases b; simp)
theorem paraAt {w : World} {F : Nat → Prop} {l : List Para} {A : Option Addr} {n c : Nat} (h : Sli paraR w F l (.slice A n c)) (k : Nat) (hk : k < l.length) : ∃ b off, A = some ⟨b, off, none⟩ ∧ F b ∧ w.cell? ⟨b, off + k * 2, none⟩ = some (.int .i64 l[k].kind) ∧ w.cell? ⟨b, off + k * 2 + 1, none⟩ = some (.string l[k].text) := by
  obtain ⟨b, off, a, e, hb, hr, hc⟩ := h.at_ k hk
  have ha : a = (l[k]).cells := hr
  subst ha
  exact ⟨b, off, e, hb, hc 0 _ rfl, hc 1 _ rfl⟩
end Go.Proofs.YtndillbimibecaaGreatDoor

/- Lists of scenes compared by a function. -/
namespace Go.Proofs.YtndillbimibecaaGreatDoor
set_option linter.unusedVariables false
open Go.RowKit Go.Sort

end Go.Proofs.YtndillbimibecaaGreatDoor

/- The times of day of a script's scenes. -/
namespace Go.Proofs.YtndillbimibecaaGreatDoor
set_option linter.unusedVariables false
open Go.RowKit Go.Sort

end Go.Proofs.YtndillbimibecaaGreatDoor

/- A copy of a script, with memory of its own. -/
namespace Go.Proofs.YtndillbimibecaaGreatDoor
set_option linter.unusedVariables false
open Go.RowKit Go.Sort

section
variable {w wx wy : World} {l : List (Scene × Value)} {v : Value} {P Q : List (Nat × Array Value × TypeId)}
end
end Go.Proofs.YtndillbimibecaaGreatDoor

/- script.Cut walked. -/
namespace Go.Proofs.YtndillbimibecaaGreatDoor
set_option linter.unusedVariables false
open Go.RowKit Go.Sort

end Go.Proofs.YtndillbimibecaaGreatDoor

/- The reader of scripts: a line of a speech group. -/
namespace Go.Proofs.YtndillbimibecaaGreatDoor
set_option linter.unusedVariables false
open Go.RowKit Go.Sort

theorem byteAt_eq {s : ByteArray} {k : Nat} (h : k < s.size) : byteAt s k = s[k] := by
  unfold byteAt
  rw [List.getD_eq_getElem?_getD, List.getElem?_eq_getElem (by simpa using h)]
  rfl
/-- A test of a byte in the spelling of the walk. -/
theorem byF (c k : UInt8) : (c = k ∧ ((c.toNat : Int) == (k.toNat : Int)) = true) ∨ (¬ c = k ∧ ((c.toNat : Int) == (k.toNat : Int)) = false) := by
  by_cases h : c = k
  · exact .inl ⟨h, by rw [h]; exact beq_self_eq_true _⟩
  · refine .inr ⟨h, beq_eq_false_iff_ne.2 fun e => h ?_⟩
    have : c.toNat = k.toNat := by omega
    exact UInt8.toNat_inj.1 this
theorem addL_bd {l : List (Scene × Value)} {m : Nat} (h : RdB m l) (p : Para) (u : Value) : RdB (m + 1) (addL l p u) := by
  refine ⟨by rw [addL_len]; have := h.1; omega, fun x hx => ?_⟩
  obtain ⟨i, hi⟩ := List.mem_iff_getElem?.1 hx
  unfold addL at hi
  rw [List.getElem?_modify] at hi
  cases hli : l[i]? with
  | none => rw [hli] at hi; simp at hi
  | some y =>
    rw [hli] at hi
    have hm := h.2 y (List.mem_iff_getElem?.2 ⟨i, hli⟩)
    simp at hi
    by_cases e : l.length - 1 = i
    · rw [if_pos e] at hi; subst hi
      show (y.1.paras ++ [p]).length ≤ m + 1
      rw [List.length_append]; simp; omega
    · rw [if_neg e] at hi; subst hi; omega
/-- What a line has left: the reader turned, or no. -/
def RdO (w : World) (R0 m : Nat) (o : Option Rd) (e : Ending) (w' : World) : Prop :=
  (∃ r l' v', o = some r ∧ e = .returned (.bool true) ∧ r.scenes = l'.map (·.1) ∧ RdB m l' ∧ RdG w R0 r.title l' v' r.wh w') ∨ (o = none ∧ e = .returned (.bool false) ∧ Below w.heap.size w w')
theorem RdO.no {w w' : World} {R0 m : Nat} {o : Option Rd} (h : o = none) (hb : Below w.heap.size w w') : RdO w R0 m o (.returned (.bool false)) w' := .inr ⟨h, rfl, hb⟩
theorem RdO.add {w w' : World} {R0 m : Nat} {o : Option Rd} {t : ByteArray} {l : List (Scene × Value)} {v u : Value} {wh : Int} {p : Para} (hb : RdB m l) (hG : RdG w R0 t (addL l p u) v (whOf p.kind) w') (ho : o = some (Rd.add ⟨t, l.map (·.1), wh⟩ p)) : RdO w R0 (m + 1) o (.returned (.bool true)) w' :=
  .inl ⟨_, addL l p u, v, ho, rfl, (addL_fst l p u).symm, addL_bd hb p u, hG⟩

set_option maxRecDepth 100000 in
set_option maxHeartbeats 4000000 in
theorem said_c (w wx : World) (R0 m : Nat) (t : ByteArray) (l : List (Scene × Value)) (v : Value) (wh : Int) (s : ByteArray) (h : RdG w R0 t l v wh wx) (h0 : 0 < l.length) (hb : RdB m l) (hm : m ≤ 1000000) (hs0 : 0 < s.size) (hs : s.size ≤ 1000000) :
    Calls Tryz.prog 97 #[.pointer (some ⟨R0, 0, none⟩), .string s] wx (RdO w R0 (m + 1) (saidR ⟨t, l.map (·.1), wh⟩ s)) := by
  have HADD := Lib.hid (fun kind text => add_c w wx R0 t l v wh kind text h h0 ⟨Nat.le_trans hb.1 hm, fun x hx => Nat.le_trans (hb.2 x hx) hm⟩)
  have HB := Lib.hid hb
  have HBE := Lib.hid h.bo.bel
  have e0 := byteAt_eq hs0
  have HS := Lib.hid (show saidR ⟨t, l.map (·.1), wh⟩ s = if s[0] = 40 then if Lib.hasSuffix s.data.toList (⟨#[41]⟩ : ByteArray).data.toList = true ∧ 2 ≤ s.size then some (Rd.add ⟨t, l.map (·.1), wh⟩ ⟨3, s.extract 1 (s.size - 1)⟩) else none
    else if s[0] = 92 then if marked s [40, 92] = true then some (Rd.add ⟨t, l.map (·.1), wh⟩ ⟨4, s.extract 1 s.size⟩) else none else some (Rd.add ⟨t, l.map (·.1), wh⟩ ⟨4, s⟩) from by unfold saidR; rw [e0])
  have p0 : (0 : Int) < s.size := by omega
  clear h h0 hb e0
  rcases byF s[0] 40 with ⟨q, qa⟩ | ⟨q, qa⟩
  · have qa' : ((s[0].toNat : Int) == 40) = true := qa
    have HS1 := Lib.hid (HS.out.trans (if_pos q))
    have HSU := Lib.hid (fun W => Tryz.strings_HasSuffix s ⟨#[41]⟩ W (by omega))
    clear qa HS q
    cases hsu : Lib.hasSuffix s.data.toList (⟨#[41]⟩ : ByteArray).data.toList with
    | false =>
      have HR := Lib.hid (HS1.out.trans (if_neg (fun h => by rw [hsu] at h; cases h.1)))
      go_enter Tryz.func97, Tryz.ntmps97
      go_wp2_with (first | (go_at_call 68; with_reducible refine (HSU.out _).mono ?_; rintro e w' ⟨rfl, rfl⟩; rw [hsu]) | fail)
      go_ret
      exact RdO.no HR.out HBE.out
    | true =>
    by_cases h2 : s.size < 2
    · have HR := Lib.hid (HS1.out.trans (if_neg (fun h => by omega)))
      have h2' : (s.size : Int) < 2 := by omega
      clear h2
      go_enter Tryz.func97, Tryz.ntmps97
      go_wp2_with (first | (go_at_call 68; with_reducible refine (HSU.out _).mono ?_; rintro e w' ⟨rfl, rfl⟩; rw [hsu]) | fail)
      go_ret
      exact RdO.no HR.out HBE.out
    · have HR := Lib.hid (HS1.out.trans (if_pos ⟨hsu, by omega⟩))
      have h2' : (2 : Int) ≤ s.size := by omega
      have h3 : ((s.size : Int) - 1).toNat = s.size - 1 := by omega
      have h4 : (1 : Int) ≤ (s.size : Int) - 1 := by omega
      have h5 : (s.size : Int) - 1 ≤ s.size := by omega
      have h6 : (0 : Int) ≤ (s.size : Int) - 1 := by omega
      have HA := Lib.hid (HADD.out 3 (s.extract 1 (s.size - 1)))
      clear h2
      go_enter Tryz.func97, Tryz.ntmps97
      go_wp2_with (first | (go_at_call 68; with_reducible refine (HSU.out _).mono ?_; rintro e w' ⟨rfl, rfl⟩; rw [hsu]) | (go_at_call 136; refine HA.out.mono ?_; rintro e w3 ⟨rfl, u, hG⟩; have HG := Lib.hid hG; clear hG) | fail)
      go_ret
      exact RdO.add HB.out HG.out HR.out
  have qa' : ((s[0].toNat : Int) == 40) = false := qa
  have HS1 := Lib.hid (HS.out.trans (if_neg q))
  clear qa HS q
  rcases byF s[0] 92 with ⟨q, qb⟩ | ⟨q, qb⟩
  · have qb' : ((s[0].toNat : Int) == 92) = true := qb
    have HS2 := Lib.hid (HS1.out.trans (if_pos q))
    clear qb HS1 q
    by_cases h2 : s.size < 2
    · have HR := Lib.hid (HS2.out.trans (if_neg (fun h => by unfold marked at h; rw [decide_eq_false (by omega)] at h; cases h)))
      have h2' : (s.size : Int) < 2 := by omega
      clear h2
      go_enter Tryz.func97, Tryz.ntmps97
      go_wp2
      go_ret
      exact RdO.no HR.out HBE.out
    have h2' : (2 : Int) ≤ s.size := by omega
    have h2n : 1 < s.size := by omega
    have p1 : (1 : Int) < s.size := by omega
    have HMK := Lib.hid (show marked s [40, 92] = ([40, 92] : List UInt8).contains s[1] by unfold marked; rw [decide_eq_true (by omega), byteAt_eq h2n, Bool.true_and])
    have HIX := Lib.hid (idxB_c ⟨#[40, 92]⟩ s[1] wx)
    have HMEM := Lib.hid (show ([40, 92] : List UInt8).contains s[1] = true ↔ 0 ≤ Lib.indexByte (⟨#[40, 92]⟩ : ByteArray).data.toList s[1] from (List.contains_iff_mem).trans (idxB_mem _ _))
    clear h2
    by_cases hix : 0 ≤ Lib.indexByte (⟨#[40, 92]⟩ : ByteArray).data.toList s[1]
    · have HR := Lib.hid (HS2.out.trans (if_pos (HMK.out.trans (HMEM.out.2 hix))))
      have HA := Lib.hid (HADD.out 4 (s.extract 1 s.size))
      clear HMEM HMK
      generalize Lib.indexByte (⟨#[40, 92]⟩ : ByteArray).data.toList s[1] = ix at *
      go_enter Tryz.func97, Tryz.ntmps97
      go_wp2_with (first | (go_at_call 137; with_reducible refine HIX.out.mono ?_; rintro e w' ⟨rfl, rfl⟩) | (go_at_call 136; refine HA.out.mono ?_; rintro e w3 ⟨rfl, u, hG⟩; have HG := Lib.hid hG; clear hG) | fail)
      go_ret
      exact RdO.add HB.out HG.out HR.out
    · have HR := Lib.hid (HS2.out.trans (if_neg (fun h => hix (HMEM.out.1 (HMK.out.symm.trans h)))))
      have hix' : Lib.indexByte (⟨#[40, 92]⟩ : ByteArray).data.toList s[1] < 0 := by omega
      clear HMEM HMK hix
      generalize Lib.indexByte (⟨#[40, 92]⟩ : ByteArray).data.toList s[1] = ix at *
      go_enter Tryz.func97, Tryz.ntmps97
      go_wp2_with (first | (go_at_call 137; with_reducible refine HIX.out.mono ?_; rintro e w' ⟨rfl, rfl⟩) | fail)
      go_ret
      exact RdO.no HR.out HBE.out
  · have qb' : ((s[0].toNat : Int) == 92) = false := qb
    have HR := Lib.hid (HS1.out.trans (if_neg q))
    have HA := Lib.hid (HADD.out 4 s)
    clear qb HS1 q
    go_enter Tryz.func97, Tryz.ntmps97
    go_wp2_with (first | (go_at_call 136; refine HA.out.mono ?_; rintro e w3 ⟨rfl, u, hG⟩; have HG := Lib.hid hG; clear hG) | fail)
    go_ret
    exact RdO.add HB.out HG.out HR.out
end Go.Proofs.YtndillbimibecaaGreatDoor

