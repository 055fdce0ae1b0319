/- Texts packed: ChkS, ChkA, ChkB, ChkC, HdS, HeadD, HeadE, ChkR, RdS, RfS, RfT, RtS, HfS. -/
import Derived.Test.YtmofncdjhdnoiaaGreatDoorSc12
import Derived.Test.YtmofncdjhdnoiaaGreatDoorSc01
import Derived.RegionTactic
import Derived.Test.YtmofncdjhdnoiaaGreatDoorSc04
import Derived.Test.YtmofncdjhdnoiaaGreatDoorSc02
import Derived.Test.YtmofncdjhdnoiaaGreatDoorSc11
import Derived.Lib.LastIndexLaws
import Derived.Lib.SlicesS
/- The errors of scripts in plain words. No program in sight. -/
namespace Go.Proofs.YtmofncdjhdnoiaaGreatDoor
set_option linter.unusedVariables false
open Go.RowKit

def nameB (s : ByteArray) : Bool := proB s 30 ⟨#[39, 46, 45]⟩
def turnC (c : UInt8) : Bool := capB c || decide (c.toNat = 32) || decide (c.toNat = 46)
def turnB (s : ByteArray) : Bool := allB turnC s && decide (s.size ≤ 40)
def brB (s : ByteArray) : Bool := Lib.containsAny s.data.toList (⟨#[40, 41]⟩ : ByteArray).data.toList
/-- The error of a paragraph by itself. -/
def paraE (p : Para) : Int :=
  if p.kind < 1 ∨ 5 < p.kind then 4
  else if p.text.size = 0 ∨ plainB p.text = false then 3
  else if 2000 < p.text.size ∨ (p.kind = 3 ∧ 200 < p.text.size) then 2
  else if p.kind = 2 ∧ nameB p.text = false then 5
  else if p.kind = 3 ∧ brB p.text = true then 3
  else if p.kind = 5 ∧ turnB p.text = false then 3 else 0
/-- Whether a paragraph of a kind may follow one of another kind. -/
def followsB (kind last : Int) : Bool := if kind = 3 then decide (last = 2) || decide (last = 4) else if kind = 4 then decide (last = 2) || decide (last = 3) || decide (last = 4) else !decide (last = 2) && !decide (last = 3)
def parasE : Int → List Para → Int
  | last, [] => if last = 2 ∨ last = 3 then 7 else 0
  | last, p :: r => if ¬ paraE p = 0 then paraE p else if followsB p.kind last = false then 7 else parasE p.kind r
theorem parasE_step (l : List Para) (k : Nat) (last : Int) (hk : k < l.length) : parasE last (l.drop k) = if ¬ paraE l[k] = 0 then paraE l[k] else if followsB l[k].kind last = false then 7 else parasE l[k].kind (l.drop (k + 1)) := by
  rw [List.drop_eq_getElem_cons hk, parasE]
theorem parasE_end (l : List Para) (k : Nat) (last : Int) (hk : ¬ k < l.length) : parasE last (l.drop k) = if last = 2 ∨ last = 3 then 7 else 0 := by
  rw [List.drop_eq_nil_of_le (by omega), parasE]
def sceneE (s : Scene) : Int := if setB s.set = false then 3 else parasE 0 s.paras
/-- The error of the scenes from one on; the numbers of those before it. -/
def scenesE : Nat → List ByteArray → List Scene → Int
  | _, _, [] => 0
  | k, seen, x :: r =>
    if ¬ x.no = ⟨#[]⟩ ∧ numB x.no = false then 5
    else if ¬ x.no = ⟨#[]⟩ ∧ (seen.any fun y => decide (y = x.no)) = true then 6
    else if x.place < 1 ∨ 3 < x.place ∨ x.time < 1 ∨ 5 < x.time then 4
    else if k = 0 ∧ x.time = 5 then 7
    else if ¬ sceneE x = 0 then sceneE x else scenesE (k + 1) (x.no :: seen) r
def parasN (l : List Scene) : Nat := (l.map fun x => x.paras.length).sum
def chkE (x : Script) : Int :=
  if x.title.size < 1 ∨ 60 < x.title.size ∨ plainB x.title = false then 3
  else if 300 < x.scenes.length ∨ 4000 < parasN x.scenes then 2
  else scenesE 0 [] x.scenes
end Go.Proofs.YtmofncdjhdnoiaaGreatDoor

/- The program's tests of paragraphs. -/
namespace Go.Proofs.YtmofncdjhdnoiaaGreatDoor
set_option linter.unusedVariables false
open Go.RowKit

set_option maxHeartbeats 800000 in
theorem isName_c (s : ByteArray) (w : World) (hs : s.size ≤ 4000000000) (hm : MaxLaid w) : Calls Tryz.prog 142 #[.string s] w fun e w' => e = .returned (.bool (nameB s)) ∧ w = w' := by
  have HP := Lib.hid (proper_c s ⟨#[39, 46, 45]⟩ 30 w hs hm (by omega))
  have HR := Lib.hid (show nameB s = proB s 30 ⟨#[39, 46, 45]⟩ from rfl)
  generalize proB s 30 ⟨#[39, 46, 45]⟩ = p1 at *
  clear hm
  go_enter Tryz.func142, Tryz.ntmps142
  go_wp2_with fail
  refine HP.out.mono ?_
  rintro e w' ⟨rfl, rfl⟩
  go_wp2
  go_ret
  exact ⟨ret_bool HR.out.symm, rfl⟩
set_option maxHeartbeats 800000 in
theorem isTurn_c (s : ByteArray) (w : World) (hs : s.size ≤ 4000000000) : Calls Tryz.prog 161 #[.string s] w fun e w' => e = .returned (.bool (turnB s)) ∧ w = w' := by
  go_enter Tryz.func161, Tryz.ntmps161
  go_wp2
  go_loop [6] (fun i => ∃ k : Nat, k ≤ s.size ∧ i = .int .i64 k ∧ Hid (∀ x ∈ s.data.toList.take k, turnC x = true)) (fun i => s.size - (intOf i).toNat)
  case atStart => exact ⟨0, Nat.zero_le _, rfl, by intro x hx; simp at hx⟩
  case round =>
    obtain ⟨k, hk, rfl, HN⟩ := hrel
    by_cases hlt : k < s.size
    · have hu : s[k].toNat < 256 := s[k].toNat_lt
      have HCC := Lib.hid (isCapital_c s[k] w)
      have HNX := Lib.hid (fun (h : turnC s[k] = true) => allB_next hlt HN.out h)
      have HX := Lib.hid (fun (h : turnC s[k] = false) => show turnB s = false by unfold turnB; rw [allB_no hlt h]; rfl)
      cases hc1 : capB s[k] with
      | true =>
        have HK := Lib.hid (HNX.out (by simp [turnC, hc1]))
        go_wp2_with (first | (go_at_call 100; refine HCC.out.mono ?_; rintro e w' ⟨rfl, rfl⟩; rw [hc1]) | fail)
        go_round
        case rel => exact ⟨k + 1, by omega, intNum, HK.out⟩
        case measure => simp [intOf]; omega
      | false =>
      by_cases hc2 : s[k].toNat = 32
      · have HK := Lib.hid (HNX.out (by simp [turnC, hc2]))
        have hc2' : ((s[k].toNat : Int) != 32) = false := by rw [hc2]; rfl
        clear hc2
        go_wp2_with (first | (go_at_call 100; refine HCC.out.mono ?_; rintro e w' ⟨rfl, rfl⟩; rw [hc1]) | fail)
        go_round
        case rel => exact ⟨k + 1, by omega, intNum, HK.out⟩
        case measure => simp [intOf]; omega
      have hc2' : ((s[k].toNat : Int) != 32) = true := bne_iff_ne.2 (by omega)
      by_cases hc3 : s[k].toNat = 46
      · have HK := Lib.hid (HNX.out (by simp [turnC, hc3]))
        have hc3' : ((s[k].toNat : Int) != 46) = false := by rw [hc3]; rfl
        clear hc3 hc2
        go_wp2_with (first | (go_at_call 100; refine HCC.out.mono ?_; rintro e w' ⟨rfl, rfl⟩; rw [hc1]) | fail)
        go_round
        case rel => exact ⟨k + 1, by omega, intNum, HK.out⟩
        case measure => simp [intOf]; omega
      · have HR := Lib.hid (HX.out (by simp [turnC, hc1, hc2, hc3]))
        have hc3' : ((s[k].toNat : Int) != 46) = true := bne_iff_ne.2 (by omega)
        clear hc3 hc2
        go_wp2_with (first | (go_at_call 100; refine HCC.out.mono ?_; rintro e w' ⟨rfl, rfl⟩; rw [hc1]) | fail)
        go_ret
        exact ⟨ret_bool HR.out.symm, rfl⟩
    · have HR := Lib.hid (show turnB s = decide ((s.size : Int) ≤ 40) by unfold turnB; rw [allB_yes hlt HN.out, Bool.true_and, decide_eq_decide]; omega)
      go_wp2
      go_ret
      exact ⟨ret_bool HR.out.symm, rfl⟩
set_option maxHeartbeats 800000 in
theorem follows_c (kind last : Int) (w : World) : Calls Tryz.prog 103 #[.int .i64 kind, .int .i64 last] w fun e w' => e = .returned (.bool (followsB kind last)) ∧ w = w' := by
  by_cases h1 : kind = 3
  · have HR := Lib.hid (show followsB kind last = (decide (last = 2) || decide (last = 4)) from if_pos h1)
    have h1' : (kind == 3) = true := by rw [h1]; rfl
    clear h1
    by_cases h2 : last = 2
    · have h2' : (last == 2) = true := by rw [h2]; rfl
      have HR2 := Lib.hid (show followsB kind last = true by rw [HR.out, decide_eq_true h2]; rfl)
      clear h2
      go_enter Tryz.func103, Tryz.ntmps103
      go_wp2
      go_ret
      exact ⟨ret_bool HR2.out.symm, rfl⟩
    · have h2' : (last == 2) = false := beq_eq_false_iff_ne.2 h2
      have HR2 := Lib.hid (show followsB kind last = (last == 4) by rw [HR.out, decide_eq_false h2]; rfl)
      clear h2
      go_enter Tryz.func103, Tryz.ntmps103
      go_wp2
      go_ret
      exact ⟨ret_bool HR2.out.symm, rfl⟩
  have h1' : (kind == 3) = false := beq_eq_false_iff_ne.2 h1
  by_cases h4 : kind = 4
  · have HR := Lib.hid (show followsB kind last = (decide (last = 2) || decide (last = 3) || decide (last = 4)) by rw [followsB, if_neg h1, if_pos h4])
    have h4' : (kind == 4) = true := by rw [h4]; rfl
    clear h1 h4
    by_cases h2 : last = 2
    · have h2' : (last == 2) = true := by rw [h2]; rfl
      have HR2 := Lib.hid (show followsB kind last = true by rw [HR.out, decide_eq_true h2]; rfl)
      clear h2
      go_enter Tryz.func103, Tryz.ntmps103
      go_wp2
      go_ret
      exact ⟨ret_bool HR2.out.symm, rfl⟩
    have h2' : (last == 2) = false := beq_eq_false_iff_ne.2 h2
    by_cases h3 : last = 3
    · have h3' : (last == 3) = true := by rw [h3]; rfl
      have HR2 := Lib.hid (show followsB kind last = true by rw [HR.out, decide_eq_true h3]; simp)
      clear h2 h3
      go_enter Tryz.func103, Tryz.ntmps103
      go_wp2
      go_ret
      exact ⟨ret_bool HR2.out.symm, rfl⟩
    · have h3' : (last == 3) = false := beq_eq_false_iff_ne.2 h3
      have HR2 := Lib.hid (show followsB kind last = (last == 4) by rw [HR.out, decide_eq_false h2, decide_eq_false h3]; rfl)
      clear h2 h3
      go_enter Tryz.func103, Tryz.ntmps103
      go_wp2
      go_ret
      exact ⟨ret_bool HR2.out.symm, rfl⟩
  · have HR := Lib.hid (show followsB kind last = (!decide (last = 2) && !decide (last = 3)) by rw [followsB, if_neg h1, if_neg h4])
    have h4' : (kind == 4) = false := beq_eq_false_iff_ne.2 h4
    clear h1 h4
    by_cases h2 : last = 2
    · have h2' : (last != 2) = false := by rw [h2]; rfl
      have HR2 := Lib.hid (show followsB kind last = false by rw [HR.out, decide_eq_true h2]; rfl)
      clear h2
      go_enter Tryz.func103, Tryz.ntmps103
      go_wp2
      go_ret
      exact ⟨ret_bool HR2.out.symm, rfl⟩
    · have h2' : (last != 2) = true := bne_iff_ne.2 h2
      have HR2 := Lib.hid (show followsB kind last = (last != 3) by rw [HR.out, decide_eq_false h2]; rfl)
      clear h2
      go_enter Tryz.func103, Tryz.ntmps103
      go_wp2
      go_ret
      exact ⟨ret_bool HR2.out.symm, rfl⟩
end Go.Proofs.YtmofncdjhdnoiaaGreatDoor

/- The program's errors of paragraphs and of scenes. -/
namespace Go.Proofs.YtmofncdjhdnoiaaGreatDoor
set_option linter.unusedVariables false
open Go.RowKit

theorem max_alloc {w : World} (h : MaxLaid w) (o : Obj) : MaxLaid (w.alloc o) := max_below h ((Below.refl w.heap.size w).alloc (Nat.le_refl _) o) (Nat.le_refl _)
theorem plain_ascii {s : ByteArray} (h : plainB s = true) : ∀ (j : Nat) (b : UInt8), s.data.toList[j]? = some b → b.toNat < 128 := by
  intro j b hj
  unfold plainB allB at h
  rw [Bool.and_eq_true, List.all_eq_true] at h
  have h2 := h.1 b (List.mem_of_getElem? hj)
  simp [prB] at h2
  omega
def PfP (p : Para) (w : World) (e : Ending) (w' : World) : Prop := e = .returned (.int .i64 (paraE p)) ∧ Below w.heap.size w w'
theorem PfP.mk {p : Para} {q : Int} {w w' : World} (h : paraE p = q) (hb : Below w.heap.size w w') : PfP p w (.returned (.int .i64 q)) w' := ⟨by rw [h], hb⟩
set_option maxRecDepth 100000 in
set_option maxHeartbeats 4000000 in
theorem paraFault_c (p : Para) (w : World) (hs : p.text.size ≤ 4000000000) (hm : MaxLaid w) : Calls Tryz.prog 102 #[.agg #[.int .i64 p.kind, .string p.text]] w (PfP p w) := by
  obtain ⟨kind, s⟩ := p
  dsimp only at hs ⊢
  have HM := Lib.hid (max_alloc hm (.cells #[.int .i64 kind, .string s] 97))
  have HB := Lib.hid ((Below.refl w.heap.size w).alloc (Nat.le_refl _) (.cells #[.int .i64 kind, .string s] 97))
  have HPL := Lib.hid (Plain_c s (w.alloc (.cells #[.int .i64 kind, .string s] 97)) hs HM.out)
  have HNA := Lib.hid (isName_c s (w.alloc (.cells #[.int .i64 kind, .string s] 97)) hs HM.out)
  have HTU := Lib.hid (isTurn_c s (w.alloc (.cells #[.int .i64 kind, .string s] 97)) hs)
  clear hm
  by_cases k1 : kind < 1
  · have HR := Lib.hid (show paraE ⟨kind, s⟩ = 4 from if_pos (.inl k1))
    go_enter Tryz.func102, Tryz.ntmps102
    go_wp2
    go_ret
    exact PfP.mk HR.out HB.out
  by_cases k2 : 5 < kind
  · have HR := Lib.hid (show paraE ⟨kind, s⟩ = 4 from if_pos (.inr k2))
    have k1' : 1 ≤ kind := by omega
    clear k1
    go_enter Tryz.func102, Tryz.ntmps102
    go_wp2
    go_ret
    exact PfP.mk HR.out HB.out
  have HR1 := Lib.hid (show paraE ⟨kind, s⟩ = if s.size = 0 ∨ plainB s = false then 3 else if 2000 < s.size ∨ (kind = 3 ∧ 200 < s.size) then 2 else if kind = 2 ∧ nameB s = false then 5 else if kind = 3 ∧ brB s = true then 3 else if kind = 5 ∧ turnB s = false then 3 else 0 from if_neg (by dsimp only; omega))
  have k1' : 1 ≤ kind := by omega
  have k2' : kind ≤ 5 := by omega
  clear k1 k2
  cases he : s.toList.isEmpty with
  | true =>
    have HR := Lib.hid (HR1.out.trans (if_pos (.inl (by rw [isEmpty_size] at he; simpa using he))))
    go_enter Tryz.func102, Tryz.ntmps102
    go_wp2
    go_ret
    exact PfP.mk HR.out HB.out
  | false =>
  have hse : ¬ s.size = 0 := by rw [isEmpty_size] at he; simpa using he
  cases hpl : plainB s with
  | false =>
    have HR := Lib.hid (HR1.out.trans (if_pos (.inr hpl)))
    clear hse
    go_enter Tryz.func102, Tryz.ntmps102
    go_wp2_with (first | (go_at_call 61; refine HPL.out.mono ?_; rintro e w' ⟨rfl, rfl⟩; rw [hpl]) | fail)
    go_ret
    exact PfP.mk HR.out HB.out
  | true =>
  have HR2 := Lib.hid (HR1.out.trans (if_neg (by rintro (h | h); exact hse h; rw [hpl] at h; cases h)))
  have HCA := Lib.hid (Tryz.strings_ContainsAny_laid s ⟨#[40, 41]⟩ (w.alloc (.cells #[.int .i64 kind, .string s] 97)) (by omega) (by decide) (plain_ascii hpl) (by
    intro j b hj
    have h : ((⟨#[40, 41]⟩ : ByteArray).data.toList.all fun b => decide (b.toNat < 128)) = true := by decide
    rw [List.all_eq_true] at h
    simpa using h b (List.mem_of_getElem? hj)))
  clear hse HR1
  by_cases k3 : 2000 < s.size
  · have HR := Lib.hid (HR2.out.trans (if_pos (.inl k3)))
    have k3' : (2000 : Int) < s.size := by omega
    go_enter Tryz.func102, Tryz.ntmps102
    go_wp2_with (first | (go_at_call 61; refine HPL.out.mono ?_; rintro e w' ⟨rfl, rfl⟩; rw [hpl]) | fail)
    go_ret
    exact PfP.mk HR.out HB.out
  have k3' : (s.size : Int) ≤ 2000 := by omega
  rcases (show kind = 1 ∨ kind = 2 ∨ kind = 3 ∨ kind = 4 ∨ kind = 5 by omega) with rfl | rfl | rfl | rfl | rfl
  · have HR := Lib.hid (show paraE ⟨1, s⟩ = 0 by rw [HR2.out, if_neg (by omega), if_neg (by rintro ⟨h, _⟩; exact absurd h (by decide)), if_neg (by rintro ⟨h, _⟩; exact absurd h (by decide)), if_neg (by rintro ⟨h, _⟩; exact absurd h (by decide))])
    go_enter Tryz.func102, Tryz.ntmps102
    go_wp2_with (first | (go_at_call 61; refine HPL.out.mono ?_; rintro e w' ⟨rfl, rfl⟩; rw [hpl]) | fail)
    go_ret
    exact PfP.mk HR.out HB.out
  · cases hna : nameB s with
    | false =>
      have HR := Lib.hid (show paraE ⟨2, s⟩ = 5 by rw [HR2.out, if_neg (by omega), if_pos ⟨rfl, hna⟩])
      go_enter Tryz.func102, Tryz.ntmps102
      go_wp2_with (first | (go_at_call 61; refine HPL.out.mono ?_; rintro e w' ⟨rfl, rfl⟩; rw [hpl]) | (go_at_call 142; refine HNA.out.mono ?_; rintro e w' ⟨rfl, rfl⟩; rw [hna]) | fail)
      go_ret
      exact PfP.mk HR.out HB.out
    | true =>
      have HR := Lib.hid (show paraE ⟨2, s⟩ = 0 by rw [HR2.out, if_neg (by omega), if_neg (by rintro ⟨_, h⟩; rw [hna] at h; cases h), if_neg (by rintro ⟨h, _⟩; exact absurd h (by decide)), if_neg (by rintro ⟨h, _⟩; exact absurd h (by decide))])
      go_enter Tryz.func102, Tryz.ntmps102
      go_wp2_with (first | (go_at_call 61; refine HPL.out.mono ?_; rintro e w' ⟨rfl, rfl⟩; rw [hpl]) | (go_at_call 142; refine HNA.out.mono ?_; rintro e w' ⟨rfl, rfl⟩; rw [hna]) | fail)
      go_ret
      exact PfP.mk HR.out HB.out
  · by_cases k4 : 200 < s.size
    · have HR := Lib.hid (show paraE ⟨3, s⟩ = 2 by rw [HR2.out, if_pos (.inr ⟨rfl, k4⟩)])
      have k4' : (200 : Int) < s.size := by omega
      go_enter Tryz.func102, Tryz.ntmps102
      go_wp2_with (first | (go_at_call 61; refine HPL.out.mono ?_; rintro e w' ⟨rfl, rfl⟩; rw [hpl]) | fail)
      go_ret
      exact PfP.mk HR.out HB.out
    · have HR := Lib.hid (show paraE ⟨3, s⟩ = if brB s = true then 3 else 0 by
        rw [HR2.out, if_neg (by omega), if_neg (by rintro ⟨h, _⟩; exact absurd h (by decide))]
        cases hbr : brB s with
        | true => rw [if_pos ⟨rfl, rfl⟩, if_pos rfl]
        | false => rw [if_neg (by rintro ⟨_, h⟩; cases h), if_neg (by rintro ⟨h, _⟩; exact absurd h (by decide)), if_neg (by decide)])
      have k4' : (s.size : Int) ≤ 200 := by omega
      have HBR := Lib.hid (show brB s = Lib.containsAny s.data.toList (⟨#[40, 41]⟩ : ByteArray).data.toList from rfl)
      generalize brB s = bb at *
      rw [← HBR.out] at HCA
      clear k4
      go_enter Tryz.func102, Tryz.ntmps102
      go_wp2_with (first | (go_at_call 61; refine HPL.out.mono ?_; rintro e w' ⟨rfl, rfl⟩; rw [hpl]) | fail)
      refine HCA.out.mono ?_
      rintro e w2 ⟨rfl, hb2⟩
      have HB2 := Lib.hid (HB.out.trans (hb2.mono (by simp)))
      have c0 : w2.cell? ⟨w.heap.size, 0, none⟩ = some (.int .i64 3) := (hb2.cell (p := ⟨w.heap.size, 0, none⟩) (by simp)).trans ((str_cells (heap_alloc_new w _)).1 0)
      have c1 : w2.cell? ⟨w.heap.size, 1, none⟩ = some (.string s) := (hb2.cell (p := ⟨w.heap.size, 1, none⟩) (by simp)).trans ((str_cells (heap_alloc_new w _)).1 1)
      clear hb2
      cases bb with
      | true =>
        go_wp2
        go_ret
        exact PfP.mk HR.out HB2.out
      | false =>
        go_wp2
        go_ret
        exact PfP.mk HR.out HB2.out
  · have HR := Lib.hid (show paraE ⟨4, s⟩ = 0 by rw [HR2.out, if_neg (by omega), if_neg (by rintro ⟨h, _⟩; exact absurd h (by decide)), if_neg (by rintro ⟨h, _⟩; exact absurd h (by decide)), if_neg (by rintro ⟨h, _⟩; exact absurd h (by decide))])
    go_enter Tryz.func102, Tryz.ntmps102
    go_wp2_with (first | (go_at_call 61; refine HPL.out.mono ?_; rintro e w' ⟨rfl, rfl⟩; rw [hpl]) | fail)
    go_ret
    exact PfP.mk HR.out HB.out
  · cases htu : turnB s with
    | false =>
      have HR := Lib.hid (show paraE ⟨5, s⟩ = 3 by rw [HR2.out, if_neg (by omega), if_neg (by rintro ⟨h, _⟩; exact absurd h (by decide)), if_neg (by rintro ⟨h, _⟩; exact absurd h (by decide)), if_pos ⟨rfl, htu⟩])
      go_enter Tryz.func102, Tryz.ntmps102
      go_wp2_with (first | (go_at_call 61; refine HPL.out.mono ?_; rintro e w' ⟨rfl, rfl⟩; rw [hpl]) | (go_at_call 161; refine HTU.out.mono ?_; rintro e w' ⟨rfl, rfl⟩; rw [htu]) | fail)
      go_ret
      exact PfP.mk HR.out HB.out
    | true =>
      have HR := Lib.hid (show paraE ⟨5, s⟩ = 0 by rw [HR2.out, if_neg (by omega), if_neg (by rintro ⟨h, _⟩; exact absurd h (by decide)), if_neg (by rintro ⟨h, _⟩; exact absurd h (by decide)), if_neg (by rintro ⟨_, h⟩; rw [htu] at h; cases h)])
      go_enter Tryz.func102, Tryz.ntmps102
      go_wp2_with (first | (go_at_call 61; refine HPL.out.mono ?_; rintro e w' ⟨rfl, rfl⟩; rw [hpl]) | (go_at_call 161; refine HTU.out.mono ?_; rintro e w' ⟨rfl, rfl⟩; rw [htu]) | fail)
      go_ret
      exact PfP.mk HR.out HB.out
end Go.Proofs.YtmofncdjhdnoiaaGreatDoor

/- The program's error of a scene. -/
namespace Go.Proofs.YtmofncdjhdnoiaaGreatDoor
set_option linter.unusedVariables false
open Go.RowKit

def ScP (x : Scene) (w : World) (e : Ending) (w' : World) : Prop := e = .returned (.int .i64 (sceneE x)) ∧ Below w.heap.size w w'
theorem ScP.mk {x : Scene} {q : Int} {w w' : World} (h : sceneE x = q) (hb : Below w.heap.size w w') : ScP x w (.returned (.int .i64 q)) w' := ⟨by rw [h], hb⟩
set_option maxRecDepth 100000 in
set_option maxHeartbeats 4000000 in
theorem sceneFault_c {F : Nat → Prop} (x : Scene) (v : Value) (w : World) (hv : Sli paraR w F x.paras v) (hF : ∀ b, F b → b < w.heap.size) (hs : x.set.size ≤ 4000000000) (ht : ∀ p ∈ x.paras, p.text.size ≤ 4000000000) (hl : x.paras.length ≤ 1000000) (hm : MaxLaid w) :
    Calls Tryz.prog 63 #[.agg #[.string x.no, .int .i64 x.place, .string x.set, .int .i64 x.time, v]] w (ScP x w) := by
  obtain ⟨A, c, rfl, hlc, hcm⟩ := hv.form
  obtain ⟨L, hL⟩ : ∃ L, x.paras.length = L := ⟨_, rfl⟩
  have HL := Lib.hid hL
  rw [hL] at hv hlc hl ⊢
  have HM0 := Lib.hid hm
  have HM := Lib.hid (max_alloc hm (.cells #[.string x.no, .int .i64 x.place, .string x.set, .int .i64 x.time, .slice A L c] 53))
  have HB := Lib.hid ((Below.refl w.heap.size w).alloc (Nat.le_refl _) (.cells #[.string x.no, .int .i64 x.place, .string x.set, .int .i64 x.time, .slice A L c] 53))
  have HS := Lib.hid (isSet_c x.set (w.alloc (.cells #[.string x.no, .int .i64 x.place, .string x.set, .int .i64 x.time, .slice A L c] 53)) hs HM.out)
  have HV := Lib.hid hv
  have HF := Lib.hid hF
  have HT := Lib.hid ht
  clear hL hm hv hF ht
  cases hse : setB x.set with
  | false =>
    have HR := Lib.hid (show sceneE x = 3 from if_pos hse)
    go_enter Tryz.func63, Tryz.ntmps63
    go_wp2_with (first | (go_at_call 101; refine HS.out.mono ?_; rintro e w' ⟨rfl, rfl⟩; rw [hse]) | fail)
    go_ret
    exact ScP.mk HR.out HB.out
  | true =>
  have HR := Lib.hid (show sceneE x = parasE 0 x.paras from if_neg (by rw [hse]; decide))
  go_enter Tryz.func63, Tryz.ntmps63
  go_wp2_with (first | (go_at_call 101; refine HS.out.mono ?_; rintro e w' ⟨rfl, rfl⟩; rw [hse]) | fail)
  clear hse HS
  go_loopw [3, 14] (fun la i wr => ∃ (k : Nat) (q : Int), k ≤ L ∧ i = .int .i64 k ∧ la = .int .i64 q ∧ Hid (sceneE x = parasE q (x.paras.drop k)) ∧ Hid (Below w.heap.size w wr) ∧ w.heap.size ≤ wr.heap.size) (fun _ i _ => L - (intOf i).toNat)
  case atStart => exact ⟨0, 0, Nat.zero_le _, rfl, rfl, HR.out, HB.out, by simp⟩
  case round =>
    clear HB HM HR
    obtain ⟨k, q, hk, rfl, rfl, HE, HB, hzw⟩ := hrel
    by_cases hlt : k < L
    · have hk2 : k < x.paras.length := by rw [HL.out]; exact hlt
      obtain ⟨b, off, rfl, hfb, c0, c1⟩ := para_at (HV.out.below HB.out HF.out) k hk2
      have hst := HE.out.trans (parasE_step x.paras k q hk2)
      have htx := HT.out _ (List.getElem_mem hk2)
      have hbw : b < wr.heap.size := by have := HF.out b hfb; omega
      generalize x.paras[k]'hk2 = p at *
      have HST := Lib.hid hst
      have HB1 := Lib.hid (HB.out.alloc hzw (.cells #[.int .i64 p.kind, .string p.text] 97))
      have HPF := Lib.hid (paraFault_c p (wr.alloc (.cells #[.int .i64 p.kind, .string p.text] 97)) htx (max_below HM0.out HB1.out (Nat.le_refl _)))
      clear hst hk2 HE
      go_wp2_with fail
      refine HPF.out.mono ?_
      rintro e w2 ⟨rfl, hb2⟩
      have hz2 := hb2.size
      simp at hz2
      have HB2 := Lib.hid (HB1.out.trans (hb2.mono (by simp; omega)))
      have d0 : w2.cell? ⟨wr.heap.size, 0, none⟩ = some (.int .i64 p.kind) := (hb2.cell (p := ⟨wr.heap.size, 0, none⟩) (by simp)).trans ((str_cells (heap_alloc_new wr _)).1 0)
      have hw2 : wr.heap.size < w2.heap.size := by omega
      have HFO := Lib.hid (follows_c p.kind q w2)
      clear hb2 HPF c0 c1
      by_cases hp0 : paraE p = 0
      · rw [hp0]
        cases hfo : followsB p.kind q with
        | false =>
          have HR := Lib.hid (HST.out.trans (by rw [if_neg (by rw [hp0]; simp), if_pos hfo]))
          clear hp0 HST
          go_wp2_with (first | (go_at_call 103; refine HFO.out.mono ?_; rintro e w' ⟨rfl, rfl⟩; rw [hfo]) | fail)
          go_ret
          exact ScP.mk HR.out HB2.out
        | true =>
          have HR := Lib.hid (HST.out.trans (by rw [if_neg (by rw [hp0]; simp), if_neg (by rw [hfo]; decide)]))
          clear hp0 HST
          go_wp2_with (first | (go_at_call 103; refine HFO.out.mono ?_; rintro e w' ⟨rfl, rfl⟩; rw [hfo]) | fail)
          go_roundw
          case rel => exact ⟨k + 1, p.kind, by omega, intNum, rfl, HR.out, HB2.out, by omega⟩
          case measure => simp [intOf]; omega
      · have HR := Lib.hid (HST.out.trans (if_pos hp0))
        have hne : (paraE p != 0) = true := by rw [bne_iff_ne]; exact hp0
        generalize paraE p = pe at *
        clear hp0 HST
        go_wp2
        go_ret
        exact ScP.mk HR.out HB2.out
    · have hend := HE.out.trans (parasE_end x.paras k q (by rw [HL.out]; exact hlt))
      by_cases h2 : q = 2
      · have HR := Lib.hid (hend.trans (if_pos (.inl h2)))
        have h2' : (q == 2) = true := by rw [h2]; rfl
        clear hend h2
        go_wp2
        go_ret
        exact ScP.mk HR.out HB.out
      have h2' : (q == 2) = false := beq_eq_false_iff_ne.2 h2
      by_cases h3 : q = 3
      · have HR := Lib.hid (hend.trans (if_pos (.inr h3)))
        have h3' : (q == 3) = true := by rw [h3]; rfl
        clear hend h2 h3
        go_wp2
        go_ret
        exact ScP.mk HR.out HB.out
      · have HR := Lib.hid (hend.trans (if_neg (by rintro (h | h); exact h2 h; exact h3 h)))
        have h3' : (q == 3) = false := beq_eq_false_iff_ne.2 h3
        clear hend h2 h3
        go_wp2
        go_ret
        exact ScP.mk HR.out HB.out
end Go.Proofs.YtmofncdjhdnoiaaGreatDoor

/- Headings of scenes and the text of a script, in plain words. No program in sight. -/
namespace Go.Proofs.YtmofncdjhdnoiaaGreatDoor
set_option linter.unusedVariables false
open Go.RowKit

def placeL : List ByteArray := [⟨#[]⟩, ⟨#[73, 78, 84, 46]⟩, ⟨#[69, 88, 84, 46]⟩, ⟨#[73, 78, 84, 46, 47, 69, 88, 84, 46]⟩]
def timeL : List ByteArray := [⟨#[]⟩, ⟨#[68, 65, 89]⟩, ⟨#[78, 73, 71, 72, 84]⟩, ⟨#[68, 65, 87, 78]⟩, ⟨#[68, 85, 83, 75]⟩, ⟨#[76, 65, 84, 69, 82]⟩]
def placeS (q : Nat) : ByteArray := placeL.getD q ⟨#[]⟩
def timeS (q : Nat) : ByteArray := timeL.getD q ⟨#[]⟩
theorem placeS_sz : ∀ q, (placeS q).size ≤ 9
  | 0 => by decide
  | 1 => by decide
  | 2 => by decide
  | 3 => by decide
  | q + 4 => by show (⟨#[]⟩ : ByteArray).size ≤ 9; decide
theorem timeS_sz : ∀ q, (timeS q).size ≤ 9
  | 0 => by decide
  | 1 => by decide
  | 2 => by decide
  | 3 => by decide
  | 4 => by decide
  | 5 => by decide
  | q + 6 => by show (⟨#[]⟩ : ByteArray).size ≤ 9; decide
/-- The heading of a scene. -/
def headS (x : Scene) : ByteArray := if x.no = ⟨#[]⟩ then placeS x.place.toNat ++ ⟨#[32]⟩ ++ x.set ++ ⟨#[32, 45, 32]⟩ ++ timeS x.time.toNat else x.no ++ ⟨#[32]⟩ ++ (placeS x.place.toNat ++ ⟨#[32]⟩ ++ x.set ++ ⟨#[32, 45, 32]⟩ ++ timeS x.time.toNat)
theorem headS_sz (x : Scene) : (headS x).size ≤ x.no.size + x.set.size + 23 := by
  have h1 := placeS_sz x.place.toNat
  have h2 := timeS_sz x.time.toNat
  have z1 : (⟨#[32]⟩ : ByteArray).size = 1 := rfl
  have z2 : (⟨#[32, 45, 32]⟩ : ByteArray).size = 3 := rfl
  unfold headS
  split <;> simp only [ByteArray.size_append, z1, z2] <;> omega
/-- The scene with a heading: its number, what follows it, the word of the place, what follows that. -/
def hNo (line : ByteArray) : ByteArray := if cutF line 32 = true ∧ numB (cutA line 32) = true then cutA line 32 else ⟨#[]⟩
def hRest (line : ByteArray) : ByteArray := if cutF line 32 = true ∧ numB (cutA line 32) = true then cutB line 32 else line
def hR2 (line : ByteArray) : ByteArray := cutB (hRest line) 32
def hK (r : ByteArray) : Int := Lib.lastIndex r.data.toList (⟨#[32, 45, 32]⟩ : ByteArray).data.toList
def placeI (s : ByteArray) : Int := Lib.idxOfS placeL s
def timeI (s : ByteArray) : Int := Lib.idxOfS timeL s
def headR (no place r2 : ByteArray) : Option Scene :=
  if hK r2 < 0 then none
  else if placeI place < 1 ∨ timeI (r2.extract ((hK r2).toNat + 3) r2.size) < 1 ∨ setB (r2.extract 0 (hK r2).toNat) = false then none
  else some ⟨no, placeI place, r2.extract 0 (hK r2).toNat, timeI (r2.extract ((hK r2).toNat + 3) r2.size), []⟩
def headFrom (line : ByteArray) : Option Scene := headR (hNo line) (cutA (hRest line) 32) (hR2 line)

/-- The text of a script. -/
def paraT (p : Para) : List UInt8 := (if p.kind = 1 ∨ p.kind = 5 ∨ p.kind = 2 then [10] else []) ++ (lineS p).data.toList ++ [10]
def sceneT (x : Scene) : List UInt8 := [10, 35, 32] ++ (headS x).data.toList ++ [10] ++ x.paras.flatMap paraT
def textT (x : Script) : List UInt8 := [116, 105, 116, 108, 101, 58, 32] ++ x.title.data.toList ++ [10] ++ x.scenes.flatMap sceneT
def textS (x : Script) : ByteArray := ⟨(textT x).toArray⟩

/-- What is read, line by line: what has come, and what the line before is. -/
structure Rd where
  title : ByteArray
  scenes : List Scene
  wh : Int
def addPara (p : Para) (x : Scene) : Scene := { x with paras := x.paras ++ [p] }
def addTo (l : List Scene) (p : Para) : List Scene := l.modify (l.length - 1) (addPara p)
def whOf (kind : Int) : Int := if kind = 2 ∨ kind = 3 ∨ kind = 4 then 4 else 3
def Rd.add (r : Rd) (p : Para) : Rd := ⟨r.title, addTo r.scenes p, whOf p.kind⟩
def Rd.scene (r : Rd) : Option Scene → Option Rd
  | some x => some ⟨r.title, r.scenes ++ [x], 3⟩
  | none => none
def byteAt (s : ByteArray) (k : Nat) : UInt8 := s.data.toList.getD k 0
def marked (s : ByteArray) (m : List UInt8) : Bool := decide (2 ≤ s.size) && m.contains (byteAt s 1)
def saidR (r : Rd) (s : ByteArray) : Option Rd :=
  if byteAt s 0 = 40 then if Lib.hasSuffix s.data.toList (⟨#[41]⟩ : ByteArray).data.toList = true ∧ 2 ≤ s.size then some (r.add ⟨3, s.extract 1 (s.size - 1)⟩) else none
  else if byteAt s 0 = 92 then if marked s [40, 92] = true then some (r.add ⟨4, s.extract 1 s.size⟩) else none
  else some (r.add ⟨4, s⟩)
def beginsR (r : Rd) (s : ByteArray) : Option Rd :=
  if byteAt s 0 = 35 then
    if Lib.hasPrefix s.data.toList (⟨#[35, 32]⟩ : ByteArray).data.toList = true then
      r.scene (headFrom (s.extract 2 s.size))
    else none
  else if r.wh = 1 then none
  else if byteAt s 0 = 64 then if nameB (s.extract 1 s.size) = true then some (r.add ⟨2, s.extract 1 s.size⟩) else none
  else if byteAt s 0 = 62 then if Lib.hasPrefix s.data.toList (⟨#[62, 32]⟩ : ByteArray).data.toList = true ∧ ¬ s.size = 2 then some (r.add ⟨5, s.extract 2 s.size⟩) else none
  else if byteAt s 0 = 92 then if marked s [64, 62, 35, 92] = true then some (r.add ⟨1, s.extract 1 s.size⟩) else none
  else some (r.add ⟨1, s⟩)
def lineR (r : Rd) (s : ByteArray) : Option Rd :=
  if s.size = 0 then if r.wh = 1 ∨ r.wh = 2 then none else some ⟨r.title, r.scenes, if r.wh = 0 then 1 else 2⟩
  else if r.wh = 4 then saidR r s
  else if r.wh = 1 ∨ r.wh = 2 then beginsR r s else none
/-- The lines from number k on: what is read, or the number of a line that cannot be there. -/
def linesR : Nat → Rd → List ByteArray → Rd ⊕ Nat
  | _, r, [] => .inl r
  | k, r, s :: l => match lineR r s with
    | some r' => linesR (k + 1) r' l
    | none => .inr k
def firstR (l : List ByteArray) : Rd ⊕ Nat := match l with
  | [] => .inl ⟨⟨#[]⟩, [], 0⟩
  | s :: l => if Lib.hasPrefix s.data.toList (⟨#[116, 105, 116, 108, 101, 58, 32]⟩ : ByteArray).data.toList = true then linesR 1 ⟨s.extract 7 s.size, [], 0⟩ l else .inr 0
def zeroX : Script := ⟨⟨#[]⟩, []⟩
/-- The script with a text, the number of a wrong line, and the error. -/
def readS (text : ByteArray) : Script × Nat × Int :=
  if 200000 < text.size then (zeroX, 0, 2)
  else match firstR ((words text 10).take ((words text 10).length - 1)) with
    | .inr k => (zeroX, k, 9)
    | .inl r =>
      if (words text 10).length = 1 ∨ ¬ ((words text 10).getLast?.getD ⟨#[]⟩).size = 0 ∨ r.wh = 1 ∨ r.wh = 2 then (zeroX, (words text 10).length - 1, 9)
      else if ¬ chkE ⟨r.title, r.scenes⟩ = 0 then (zeroX, 0, chkE ⟨r.title, r.scenes⟩)
      else if ¬ textS ⟨r.title, r.scenes⟩ = text then (zeroX, 0, 9)
      else (⟨r.title, r.scenes⟩, 0, 0)
end Go.Proofs.YtmofncdjhdnoiaaGreatDoor

/- The reference's sets of scenes and the error of a heading. -/
namespace Go.Proofs.YtmofncdjhdnoiaaGreatDoor
set_option linter.unusedVariables false
open Go.RowKit

abbrev capsS : ByteArray := ⟨#[65, 66, 67, 68, 69, 70, 71, 72, 73, 74, 75, 76, 77, 78, 79, 80, 81, 82, 83, 84, 85, 86, 87, 88, 89, 90]⟩
abbrev setSS : ByteArray := ⟨#[65, 66, 67, 68, 69, 70, 71, 72, 73, 74, 75, 76, 77, 78, 79, 80, 81, 82, 83, 84, 85, 86, 87, 88, 89, 90, 48, 49, 50, 51, 52, 53, 54, 55, 56, 57, 32, 39, 46, 45, 47]⟩
theorem set_ascii : (setSS.data.toList.all fun b => decide (b.toNat < 128)) = true := by decide +kernel
theorem caps_ascii : (capsS.data.toList.all fun b => decide (b.toNat < 128)) = true := by decide +kernel
theorem set_size : setSS.size ≤ 1000 := by decide +kernel
theorem caps_size : capsS.size ≤ 1000 := by decide +kernel
theorem set_made (s : ByteArray) : allB (setSS.data.toList.contains ·) s = allB (proC (⟨#[39, 46, 45, 47]⟩ : ByteArray).data.toList) s := allB_congr (by decide +kernel) s
theorem cap_first {s : ByteArray} (h : 0 < s.size) : allB (capsS.data.toList.contains ·) (s.extract 0 1) = capB s[0] := by
  have hc : ∀ c, capsS.data.toList.contains c = capB c := fun c => congrFun cap_set c
  unfold allB
  rw [extract_list]
  rcases s with ⟨⟨l⟩⟩
  cases l with
  | nil => exact absurd h (by show ¬ 0 < 0; omega)
  | cons c r =>
    show (List.take 1 (c :: r)).all _ = capB c
    rw [show List.take 1 (c :: r) = [c] from rfl, List.all_cons, List.all_nil, Bool.and_true]
    exact hc c
theorem substr_c (s sub : ByteArray) (W : World) (hs : s.size ≤ 4000000000) (hm : MaxLaid W) : Calls Tryz.prog 98 #[.string s, .string sub] W fun e w' => e = .returned (.bool (Lib.contains s.data.toList sub.data.toList)) ∧ w' = W := by
  obtain ⟨⟨m, hm⟩, _⟩ := hm
  exact Tryz.strings_Contains s sub m W (by omega) hm
set_option maxRecDepth 100000 in
set_option maxHeartbeats 4000000 in
theorem SetOf_c (s : ByteArray) (w : World) (hs : s.size ≤ 1000000) (hsp : SpLaid w) (hm : MaxLaid w) : Calls Tryz.prog 119 #[.string s] w fun e w' => e = .returned (.bool (setB s)) ∧ Below w.heap.size w w' := by
  have HLO := Lib.hid (long_c s 1 60 w (by omega))
  have HPL := Lib.hid (plainR_c s w (by omega) hsp)
  have HM := Lib.hid hm
  have HM1 := Lib.hid (fun W => made_c s setSS W (by omega) set_size set_ascii)
  have HM2 := Lib.hid (fun W => made_c (s.extract 0 1) capsS W (by rw [ByteArray.size_extract]; omega) caps_size caps_ascii)
  clear hsp hm
  have HSB := Lib.hid (show setB s = (proB s 60 ⟨#[39, 46, 45, 47]⟩ && !Lib.contains s.data.toList (⟨#[32, 45, 32]⟩ : ByteArray).data.toList && !Lib.hasSuffix s.data.toList (⟨#[32, 45]⟩ : ByteArray).data.toList) from rfl)
  by_cases h0 : s.size = 0 ∨ 60 < s.size
  · have HR := Lib.hid (show setB s = false by rw [HSB.out, proB_no (by rcases h0 with h | h; exact .inl h; exact .inr (.inl h))]; rfl)
    have hlo : (decide ((1 : Int) ≤ s.size) && decide ((s.size : Int) ≤ 60)) = false := by
      rcases h0 with h | h
      · rw [decide_eq_false (by omega)]; rfl
      · rw [decide_eq_false (p := (s.size : Int) ≤ 60) (by omega)]; simp
    clear h0
    go_enter Tryz.func119, Tryz.ntmps119
    go_wp2_with (first | (go_at_call 25; with_reducible refine HLO.out.mono ?_; rintro e w' ⟨rfl, rfl⟩; rw [hlo]) | fail)
    go_ret
    exact ⟨ret_bool HR.out.symm, Below.refl _ _⟩
  have hlo : (decide ((1 : Int) ≤ s.size) && decide ((s.size : Int) ≤ 60)) = true := by rw [decide_eq_true (by omega), decide_eq_true (by omega)]; rfl
  have hp : 0 < s.size := by omega
  have hp1 : (1 : Int) ≤ s.size := by omega
  cases hpl : plainB s with
  | false =>
    have HR := Lib.hid (show setB s = false by rw [HSB.out, proB_no (.inr (.inr (.inr (.inl hpl))))]; rfl)
    go_enter Tryz.func119, Tryz.ntmps119
    go_wp2_with (first | (go_at_call 25; with_reducible refine HLO.out.mono ?_; rintro e w' ⟨rfl, rfl⟩; rw [hlo]) | (go_at_call 26; with_reducible refine HPL.out.mono ?_; rintro e w2 ⟨rfl, hb2⟩; rw [hpl]) | fail)
    go_ret
    exact ⟨ret_bool HR.out.symm, hb2⟩
  | true =>
  have hset := set_made s
  cases hpc : allB (proC (⟨#[39, 46, 45, 47]⟩ : ByteArray).data.toList) s with
  | false =>
    have HR := Lib.hid (show setB s = false by rw [HSB.out, proB_no (.inr (.inr (.inr (.inr hpc))))]; rfl)
    rw [hpc] at hset
    go_enter Tryz.func119, Tryz.ntmps119
    go_wp2_with (first | (go_at_call 25; with_reducible refine HLO.out.mono ?_; rintro e w' ⟨rfl, rfl⟩; rw [hlo]) | (go_at_call 26; with_reducible refine HPL.out.mono ?_; rintro e w2 ⟨rfl, hb2⟩; rw [hpl]) | (go_at_call 123; with_reducible refine (HM1.out w2).mono ?_; rintro e w3 ⟨rfl, hb3⟩; rw [hset]) | fail)
    go_ret
    exact ⟨ret_bool HR.out.symm, hb2.trans (hb3.mono hb2.size)⟩
  | true =>
  rw [hpc] at hset
  have hcf := cap_first hp
  have hex : (s.extract 0 1).size ≤ 1000000 := by rw [ByteArray.size_extract]; omega
  cases hcp : capB s[0] with
  | false =>
    have HR := Lib.hid (show setB s = false by rw [HSB.out, proB_no (.inr (.inr (.inl ⟨hp, hcp⟩)))]; rfl)
    rw [hcp] at hcf
    go_enter Tryz.func119, Tryz.ntmps119
    go_wp2_with (first | (go_at_call 25; with_reducible refine HLO.out.mono ?_; rintro e w' ⟨rfl, rfl⟩; rw [hlo]) | (go_at_call 26; with_reducible refine HPL.out.mono ?_; rintro e w2 ⟨rfl, hb2⟩; rw [hpl]) | (go_at_call 123; with_reducible refine (HM1.out w2).mono ?_; rintro e w3 ⟨rfl, hb3⟩; rw [hset]) | (go_at_call 123; with_reducible refine (HM2.out w3).mono ?_; rintro e w4 ⟨rfl, hb4⟩; rw [hcf]) | fail)
    go_ret
    exact ⟨ret_bool HR.out.symm, (hb2.trans (hb3.mono hb2.size)).trans (hb4.mono (hb2.trans (hb3.mono hb2.size)).size)⟩
  | true =>
  rw [hcp] at hcf
  have HR := Lib.hid (show setB s = (!Lib.contains s.data.toList (⟨#[32, 45, 32]⟩ : ByteArray).data.toList && !Lib.hasSuffix s.data.toList (⟨#[32, 45]⟩ : ByteArray).data.toList) by rw [HSB.out, proB_yes hp (by omega) hcp hpl hpc]; rfl)
  have HSU := Lib.hid (fun W => Tryz.strings_HasSuffix s ⟨#[32, 45]⟩ W (by omega))
  have HCO := Lib.hid (fun (W : World) (hb : Below w.heap.size w W) => substr_c s ⟨#[32, 45, 32]⟩ W (by omega) (max_below HM.out hb (Nat.le_refl _)))
  generalize Lib.contains s.data.toList (⟨#[32, 45, 32]⟩ : ByteArray).data.toList = p2 at *
  generalize Lib.hasSuffix s.data.toList (⟨#[32, 45]⟩ : ByteArray).data.toList = p3 at *
  clear hpc hcp HSB
  go_enter Tryz.func119, Tryz.ntmps119
  cases p2
  all_goals
    go_wp2_with (first | (go_at_call 25; with_reducible refine HLO.out.mono ?_; rintro e w' ⟨rfl, rfl⟩; rw [hlo]) | (go_at_call 26; with_reducible refine HPL.out.mono ?_; rintro e w2 ⟨rfl, hb2⟩; rw [hpl]) | (go_at_call 123; with_reducible refine (HM1.out w2).mono ?_; rintro e w3 ⟨rfl, hb3⟩; rw [hset]) | (go_at_call 123; with_reducible refine (HM2.out w3).mono ?_; rintro e w4 ⟨rfl, hb4⟩; rw [hcf]; have hb5 : Below w.heap.size w w4 := (hb2.trans (hb3.mono hb2.size)).trans (hb4.mono (hb2.trans (hb3.mono hb2.size)).size)) | (go_at_call 98; with_reducible refine (HCO.out w4 hb5).mono ?_; rintro e w' ⟨rfl, rfl⟩) | (go_at_call 97; with_reducible refine (HSU.out _).mono ?_; rintro e w' ⟨rfl, rfl⟩) | fail)
    go_ret
    exact ⟨ret_bool (by rw [HR.out]; simp), by assumption⟩
end Go.Proofs.YtmofncdjhdnoiaaGreatDoor

/- The reference's error of a heading. -/
namespace Go.Proofs.YtmofncdjhdnoiaaGreatDoor
set_option linter.unusedVariables false
open Go.RowKit

theorem sp_lt {w : World} (h : SpLaid w) : 0 < w.heap.size := by
  unfold SpLaid Lib.TabIs World.var? at h
  rw [show Tryz.prog.globalNamed "strings.asciiSpace" = some 0 by kernel_rfl] at h
  simp only [Option.bind_some] at h
  rcases Nat.lt_or_ge 0 w.heap.size with h' | h'
  · exact h'
  · simp [Array.getElem?_eq_none h'] at h
theorem sp_block {w w' : World} (h : SpLaid w) (hk : w'.heap[0]? = w.heap[0]?) : SpLaid w' := by
  unfold SpLaid Lib.TabIs World.var? at *
  rw [show Tryz.prog.globalNamed "strings.asciiSpace" = some 0 by kernel_rfl] at *
  simp only [Option.bind_some] at *
  rw [hk]; exact h
theorem sp_below {w w' : World} {B : Nat} (h : SpLaid w) (hb : Below B w w') (hB : w.heap.size ≤ B) : SpLaid w' := sp_block h (hb.block _ (by have := sp_lt h; omega))

def headE (x : Scene) : Int :=
  if ¬ x.no = ⟨#[]⟩ ∧ numB x.no = false then 5
  else if x.place < 1 ∨ 3 < x.place ∨ x.time < 1 ∨ 5 < x.time then 4
  else if setB x.set = false then 3 else 0
def HeP (x : Scene) (w : World) (e : Ending) (w' : World) : Prop := e = .returned (.int .i64 (headE x)) ∧ Below w.heap.size w w'
theorem HeP.mk {x : Scene} {q : Int} {w w' : World} (h : headE x = q) (hb : Below w.heap.size w w') : HeP x w (.returned (.int .i64 q)) w' := ⟨by rw [h], hb⟩
set_option maxRecDepth 100000 in
set_option maxHeartbeats 4000000 in
theorem headFault_c (x : Scene) (A : Option Addr) (n c : Nat) (w : World) (hn : x.no.size ≤ 1000000) (hs : x.set.size ≤ 1000000) (hsp : SpLaid w) (hm : MaxLaid w) :
    Calls Tryz.prog 67 #[.agg #[.string x.no, .int .i64 x.place, .string x.set, .int .i64 x.time, .slice A n c]] w (HeP x w) := by
  have HSP := Lib.hid hsp
  have HM := Lib.hid hm
  have HB := Lib.hid ((Below.refl w.heap.size w).alloc (Nat.le_refl _) (.cells #[.string x.no, .int .i64 x.place, .string x.set, .int .i64 x.time, .slice A n c] 53))
  have HSO := Lib.hid (fun (W : World) (hb : Below w.heap.size w W) => SetOf_c x.set W hs (sp_below HSP.out hb (Nat.le_refl _)) (max_below HM.out hb (Nat.le_refl _)))
  have HNU := Lib.hid (NumberOf_c x.no (w.alloc (.cells #[.string x.no, .int .i64 x.place, .string x.set, .int .i64 x.time, .slice A n c] 53)) (by omega))
  have HY := Lib.hid (fun (W : World) (hb : Below (w.alloc (.cells #[.string x.no, .int .i64 x.place, .string x.set, .int .i64 x.time, .slice A n c] 53)).heap.size (w.alloc (.cells #[.string x.no, .int .i64 x.place, .string x.set, .int .i64 x.time, .slice A n c] 53)) W) => show W.cell? ⟨w.heap.size, 0, none⟩ = some (.string x.no) ∧ W.cell? ⟨w.heap.size, 1, none⟩ = some (.int .i64 x.place) ∧ W.cell? ⟨w.heap.size, 2, none⟩ = some (.string x.set) ∧ W.cell? ⟨w.heap.size, 3, none⟩ = some (.int .i64 x.time) by
    obtain ⟨y, _⟩ := str_cells ((hb.block w.heap.size (by simp)).trans (heap_alloc_new w _))
    exact ⟨y 0, y 1, y 2, y 3⟩)
  clear hsp hm
  cases he : x.no.toList.isEmpty with
  | true =>
    have hno : x.no = ⟨#[]⟩ := (empty_iff x.no).1 he
    have HST := Lib.hid (show headE x = if x.place < 1 ∨ 3 < x.place ∨ x.time < 1 ∨ 5 < x.time then 4 else if setB x.set = false then 3 else 0 from if_neg (fun h => h.1 hno))
    clear hno
    go_enter Tryz.func67, Tryz.ntmps67
    by_cases q1 : x.place < 1
    · have HR := Lib.hid (HST.out.trans (if_pos (.inl q1)))
      go_wp2
      go_ret
      exact HeP.mk HR.out HB.out
    have g1 : 1 ≤ x.place := by omega
    by_cases q2 : 3 < x.place
    · have HR := Lib.hid (HST.out.trans (if_pos (.inr (.inl q2))))
      go_wp2
      go_ret
      exact HeP.mk HR.out HB.out
    have g2 : x.place ≤ 3 := by omega
    by_cases q3 : x.time < 1
    · have HR := Lib.hid (HST.out.trans (if_pos (.inr (.inr (.inl q3)))))
      go_wp2
      go_ret
      exact HeP.mk HR.out HB.out
    have g3 : 1 ≤ x.time := by omega
    by_cases q4 : 5 < x.time
    · have HR := Lib.hid (HST.out.trans (if_pos (.inr (.inr (.inr q4)))))
      go_wp2
      go_ret
      exact HeP.mk HR.out HB.out
    have g4 : x.time ≤ 5 := by omega
    have HS3 := Lib.hid (HST.out.trans (if_neg (by rintro (h | h | h | h) <;> omega)))
    clear q1 q2 q3 q4
    go_wp2_with fail
    with_reducible refine (HSO.out _ HB.out).mono ?_
    rintro e w5 ⟨rfl, hb5⟩
    have HB6 := Lib.hid ((HB.out).trans (hb5.mono (HB.out).size))
    clear hb5
    cases hsb : setB x.set with
    | false =>
      have HR := Lib.hid (HS3.out.trans (if_pos hsb))
      go_wp2
      go_ret
      exact HeP.mk HR.out HB6.out
    | true =>
      have HR := Lib.hid (HS3.out.trans (if_neg (by rw [hsb]; decide)))
      go_wp2
      go_ret
      exact HeP.mk HR.out HB6.out
  | false =>
    have hno : ¬ x.no = ⟨#[]⟩ := fun h => by rw [(empty_iff x.no).2 h] at he; cases he
    cases hnb : numB x.no with
    | false =>
      have HR := Lib.hid (show headE x = 5 from if_pos ⟨hno, hnb⟩)
      clear hno
      go_enter Tryz.func67, Tryz.ntmps67
      go_wp2_with (first | (go_at_call 118; with_reducible refine HNU.out.mono ?_; rintro e w2 ⟨rfl, hb2⟩; rw [hnb]) | fail)
      go_ret
      exact HeP.mk HR.out (HB.out.trans (hb2.mono (by simp)))
    | true =>
      have HST := Lib.hid (show headE x = if x.place < 1 ∨ 3 < x.place ∨ x.time < 1 ∨ 5 < x.time then 4 else if setB x.set = false then 3 else 0 from if_neg (by rintro ⟨_, h⟩; rw [hnb] at h; cases h))
      clear hno
      go_enter Tryz.func67, Tryz.ntmps67
      go_wp2_with fail
      with_reducible refine HNU.out.mono ?_
      rintro e w2 ⟨rfl, hb2⟩
      rw [hnb]
      obtain ⟨y0, y1, y2, y3⟩ := HY.out w2 hb2
      have hz2 : w.heap.size < w2.heap.size := Nat.lt_of_lt_of_le (by simp) hb2.size
      have HB2 := Lib.hid (HB.out.trans (hb2.mono (by simp)))
      clear hb2 HY HNU HB
      by_cases q1 : x.place < 1
      · have HR := Lib.hid (HST.out.trans (if_pos (.inl q1)))
        go_wp2
        go_ret
        exact HeP.mk HR.out HB2.out
      have g1 : 1 ≤ x.place := by omega
      by_cases q2 : 3 < x.place
      · have HR := Lib.hid (HST.out.trans (if_pos (.inr (.inl q2))))
        go_wp2
        go_ret
        exact HeP.mk HR.out HB2.out
      have g2 : x.place ≤ 3 := by omega
      by_cases q3 : x.time < 1
      · have HR := Lib.hid (HST.out.trans (if_pos (.inr (.inr (.inl q3)))))
        go_wp2
        go_ret
        exact HeP.mk HR.out HB2.out
      have g3 : 1 ≤ x.time := by omega
      by_cases q4 : 5 < x.time
      · have HR := Lib.hid (HST.out.trans (if_pos (.inr (.inr (.inr q4)))))
        go_wp2
        go_ret
        exact HeP.mk HR.out HB2.out
      have g4 : x.time ≤ 5 := by omega
      have HS3 := Lib.hid (HST.out.trans (if_neg (by rintro (h | h | h | h) <;> omega)))
      clear q1 q2 q3 q4
      go_wp2_with fail
      with_reducible refine (HSO.out _ HB2.out).mono ?_
      rintro e w5 ⟨rfl, hb5⟩
      have HB6 := Lib.hid ((HB2.out).trans (hb5.mono (HB2.out).size))
      clear hb5
      cases hsb : setB x.set with
      | false =>
        have HR := Lib.hid (HS3.out.trans (if_pos hsb))
        go_wp2
        go_ret
        exact HeP.mk HR.out HB6.out
      | true =>
        have HR := Lib.hid (HS3.out.trans (if_neg (by rw [hsb]; decide)))
        go_wp2
        go_ret
        exact HeP.mk HR.out HB6.out
end Go.Proofs.YtmofncdjhdnoiaaGreatDoor

/- The reference's error of a script in plain words, and that it is the program's. No program in sight. -/
namespace Go.Proofs.YtmofncdjhdnoiaaGreatDoor
set_option linter.unusedVariables false
open Go.RowKit

/-- The reference's error of a paragraph behind one of another kind. -/
def paraRE (before : Int) (p : Para) : Int :=
  if p.kind < 1 ∨ 5 < p.kind then 4
  else if p.text.size = 0 ∨ plainB p.text = false then 3
  else if (if p.kind = 3 then 200 else 2000) < p.text.size then 2
  else if p.kind = 2 ∧ nameB p.text = false then 5
  else if p.kind = 3 ∧ brB p.text = true then 3
  else if p.kind = 5 ∧ turnB p.text = false then 3
  else if p.kind = 3 ∧ ¬ before = 2 ∧ ¬ before = 4 then 7
  else if p.kind = 4 ∧ (before = 1 ∨ before = 5 ∨ before = 0) then 7
  else if (before = 2 ∨ before = 3) ∧ ¬ p.kind = 3 ∧ ¬ p.kind = 4 then 7 else 0
def parasRE : Int → List Para → Int
  | last, [] => if last = 2 ∨ last = 3 then 7 else 0
  | last, p :: r => if ¬ paraRE last p = 0 then paraRE last p else parasRE p.kind r
theorem paraE_kind {p : Para} (h : paraE p = 0) : 1 ≤ p.kind ∧ p.kind ≤ 5 := by
  unfold paraE at h
  split at h
  · omega
  · omega
theorem follows_iff {kind last : Int} (hk : 1 ≤ kind ∧ kind ≤ 5) (hl : 0 ≤ last ∧ last ≤ 5) : followsB kind last = false ↔ (kind = 3 ∧ ¬ last = 2 ∧ ¬ last = 4) ∨ (kind = 4 ∧ (last = 1 ∨ last = 5 ∨ last = 0)) ∨ ((last = 2 ∨ last = 3) ∧ ¬ kind = 3 ∧ ¬ kind = 4) := by
  obtain ⟨a, rfl⟩ := Int.eq_ofNat_of_zero_le (show 0 ≤ kind by omega)
  obtain ⟨b, rfl⟩ := Int.eq_ofNat_of_zero_le hl.1
  have ha : a = 1 ∨ a = 2 ∨ a = 3 ∨ a = 4 ∨ a = 5 := by omega
  have hb : b = 0 ∨ b = 1 ∨ b = 2 ∨ b = 3 ∨ b = 4 ∨ b = 5 := by omega
  rcases ha with rfl | rfl | rfl | rfl | rfl <;> rcases hb with rfl | rfl | rfl | rfl | rfl | rfl <;> decide
theorem paraRE_eq (p : Para) (last : Int) (hl : 0 ≤ last ∧ last ≤ 5) : paraRE last p = if ¬ paraE p = 0 then paraE p else if followsB p.kind last = false then 7 else 0 := by
  by_cases h0 : paraE p = 0
  · rw [if_neg (by simp [h0])]
    have hk := paraE_kind h0
    have hf := follows_iff hk hl
    unfold paraE at h0
    unfold paraRE
    by_cases c1 : p.kind < 1 ∨ 5 < p.kind
    · omega
    rw [if_neg c1] at h0 ⊢
    by_cases c2 : p.text.size = 0 ∨ plainB p.text = false
    · rw [if_pos c2] at h0; omega
    rw [if_neg c2] at h0 ⊢
    by_cases c3 : 2000 < p.text.size ∨ (p.kind = 3 ∧ 200 < p.text.size)
    · rw [if_pos c3] at h0; omega
    rw [if_neg c3] at h0
    rw [if_neg (by split <;> omega)]
    by_cases c4 : p.kind = 2 ∧ nameB p.text = false
    · rw [if_pos c4] at h0; omega
    rw [if_neg c4] at h0 ⊢
    by_cases c5 : p.kind = 3 ∧ brB p.text = true
    · rw [if_pos c5] at h0; omega
    rw [if_neg c5] at h0 ⊢
    by_cases c6 : p.kind = 5 ∧ turnB p.text = false
    · rw [if_pos c6] at h0; omega
    rw [if_neg c6]
    by_cases d1 : p.kind = 3 ∧ ¬ last = 2 ∧ ¬ last = 4
    · rw [if_pos d1, if_pos (hf.2 (.inl d1))]
    rw [if_neg d1]
    by_cases d2 : p.kind = 4 ∧ (last = 1 ∨ last = 5 ∨ last = 0)
    · rw [if_pos d2, if_pos (hf.2 (.inr (.inl d2)))]
    rw [if_neg d2]
    by_cases d3 : (last = 2 ∨ last = 3) ∧ ¬ p.kind = 3 ∧ ¬ p.kind = 4
    · rw [if_pos d3, if_pos (hf.2 (.inr (.inr d3)))]
    · rw [if_neg d3, if_neg (fun h => by
        rcases hf.1 h with h | h | h
        · exact d1 h
        · exact d2 h
        · exact d3 h)]
  · rw [if_pos h0]
    unfold paraE at h0 ⊢
    unfold paraRE
    by_cases c1 : p.kind < 1 ∨ 5 < p.kind
    · rw [if_pos c1, if_pos c1]
    rw [if_neg c1] at h0 ⊢
    rw [if_neg c1]
    by_cases c2 : p.text.size = 0 ∨ plainB p.text = false
    · rw [if_pos c2, if_pos c2]
    rw [if_neg c2] at h0 ⊢
    rw [if_neg c2]
    by_cases c3 : 2000 < p.text.size ∨ (p.kind = 3 ∧ 200 < p.text.size)
    · rw [if_pos c3, if_pos (by split <;> omega)]
    rw [if_neg c3] at h0 ⊢
    rw [if_neg (by split <;> omega)]
    by_cases c4 : p.kind = 2 ∧ nameB p.text = false
    · rw [if_pos c4, if_pos c4]
    rw [if_neg c4] at h0 ⊢
    rw [if_neg c4]
    by_cases c5 : p.kind = 3 ∧ brB p.text = true
    · rw [if_pos c5, if_pos c5]
    rw [if_neg c5] at h0 ⊢
    rw [if_neg c5]
    by_cases c6 : p.kind = 5 ∧ turnB p.text = false
    · rw [if_pos c6, if_pos c6]
    · rw [if_neg c6] at h0
      exact absurd rfl h0
theorem parasRE_eq (l : List Para) : ∀ last : Int, 0 ≤ last ∧ last ≤ 5 → parasRE last l = parasE last l := by
  induction l with
  | nil => intro last _; rfl
  | cons p r ih =>
    intro last hl
    rw [parasRE, parasE, paraRE_eq p last hl]
    by_cases h0 : paraE p = 0
    · have hk := paraE_kind h0
      rw [if_neg (show ¬ ¬ paraE p = 0 from fun h => h h0), if_neg (show ¬ ¬ paraE p = 0 from fun h => h h0)]
      by_cases hf : followsB p.kind last = false
      · rw [if_pos hf, if_pos hf, if_pos (by decide)]
      · rw [if_neg hf, if_neg hf, if_neg (by decide)]
        exact ih p.kind (by omega)
    · rw [if_pos h0, if_pos h0, if_pos h0]
/-- The reference's error of scene k; the numbers of those before it. -/
def sceneRE (k : Nat) (seen : List ByteArray) (x : Scene) : Int :=
  if headE x = 5 then 5
  else if ¬ x.no = ⟨#[]⟩ ∧ (seen.any fun y => decide (y = x.no)) = true then 6
  else if headE x = 4 then 4
  else if k = 0 ∧ x.time = 5 then 7
  else if ¬ headE x = 0 then headE x
  else parasRE 0 x.paras
theorem sceneRE_eq (k : Nat) (seen : List ByteArray) (x : Scene) (r : List Scene) : (if ¬ sceneRE k seen x = 0 then sceneRE k seen x else scenesE (k + 1) (x.no :: seen) r) = scenesE k seen (x :: r) := by
  rw [scenesE]
  unfold sceneRE headE sceneE
  rw [parasRE_eq _ 0 (by omega)]
  by_cases c1 : ¬ x.no = ⟨#[]⟩ ∧ numB x.no = false
  · rw [if_pos c1, if_pos c1, if_pos rfl, if_pos (by decide)]
  · rw [if_neg c1, if_neg c1]
    by_cases c3 : x.place < 1 ∨ 3 < x.place ∨ x.time < 1 ∨ 5 < x.time
    · simp only [if_pos c3]
      by_cases c2 : ¬ x.no = ⟨#[]⟩ ∧ (seen.any fun y => decide (y = x.no)) = true
      · simp only [if_pos c2]; simp
      · simp only [if_neg c2]; simp
    · simp only [if_neg c3]
      by_cases c2 : ¬ x.no = ⟨#[]⟩ ∧ (seen.any fun y => decide (y = x.no)) = true
      · simp only [if_pos c2]
        by_cases c4 : setB x.set = false
        · simp only [if_pos c4]; simp
        · simp only [if_neg c4]; simp
      · simp only [if_neg c2]
        by_cases c5 : k = 0 ∧ x.time = 5
        · simp only [if_pos c5]
          by_cases c4 : setB x.set = false
          · simp only [if_pos c4]; simp
          · simp only [if_neg c4]; simp
        · simp only [if_neg c5]
          by_cases c4 : setB x.set = false
          · simp only [if_pos c4]; simp
          · simp only [if_neg c4]; simp
end Go.Proofs.YtmofncdjhdnoiaaGreatDoor

/- What the reader of scripts keeps, and what a right script stays within. No program in sight. -/
namespace Go.Proofs.YtmofncdjhdnoiaaGreatDoor
set_option linter.unusedVariables false
open Go.RowKit

structure RdI (N : Nat) (r : Rd) : Prop where
  wh : r.wh = 0 ∨ r.wh = 1 ∨ r.wh = 2 ∨ r.wh = 3 ∨ r.wh = 4
  ne : r.wh = 2 ∨ r.wh = 3 ∨ r.wh = 4 → 0 < r.scenes.length
  ts : r.title.size ≤ N
  sz : ∀ x ∈ r.scenes, x.no.size ≤ N ∧ x.set.size ≤ N ∧ ∀ p ∈ x.paras, p.text.size ≤ N
theorem mem_mod {α : Type} {l : List α} {f : α → α} {k : Nat} {y : α} (h : y ∈ l.modify k f) : y ∈ l ∨ ∃ x ∈ l, y = f x := by
  obtain ⟨i, hi⟩ := List.mem_iff_getElem?.1 h
  rw [List.getElem?_modify] at hi
  cases hli : l[i]? with
  | none => rw [hli] at hi; simp at hi
  | some x =>
    rw [hli] at hi
    have hm : x ∈ l := List.mem_iff_getElem?.2 ⟨i, hli⟩
    simp at hi
    by_cases e : k = i
    · rw [if_pos e] at hi; exact .inr ⟨x, hm, hi.symm⟩
    · rw [if_neg e] at hi; exact .inl (hi ▸ hm)
theorem RdI.add {N : Nat} {r : Rd} (h : RdI N r) (h0 : 0 < r.scenes.length) (p : Para) (hp : p.text.size ≤ N) : RdI N (r.add p) := by
  refine ⟨?_, fun _ => by show 0 < (addTo r.scenes p).length; unfold addTo; rw [List.length_modify]; exact h0, h.ts, fun x hx => ?_⟩
  · have hw : whOf p.kind = 4 ∨ whOf p.kind = 3 := by
      unfold whOf
      split
      · exact .inl rfl
      · exact .inr rfl
    rcases hw with e | e
    · exact .inr (.inr (.inr (.inr e)))
    · exact .inr (.inr (.inr (.inl e)))
  · rcases mem_mod hx with hx | ⟨y, hy, rfl⟩
    · exact h.sz x hx
    · obtain ⟨h1, h2, h3⟩ := h.sz y hy
      refine ⟨h1, h2, fun q hq => ?_⟩
      rcases List.mem_append.1 hq with hq | hq
      · exact h3 q hq
      · rw [List.mem_singleton] at hq; subst hq; exact hp
theorem ext_le (s : ByteArray) (a b : Nat) : (s.extract a b).size ≤ s.size := by rw [ByteArray.size_extract]; omega
theorem headFrom_sz {line : ByteArray} {x : Scene} (h : headFrom line = some x) : x.no.size ≤ line.size ∧ x.set.size ≤ line.size ∧ x.paras = [] := by
  unfold headFrom headR at h
  split at h
  · cases h
  · split at h
    · cases h
    · injection h with h
      subst h
      refine ⟨?_, ?_, rfl⟩
      · show (hNo line).size ≤ _
        unfold hNo
        split
        · exact cutA_size _ _
        · exact Nat.zero_le _
      · show ((hR2 line).extract 0 _).size ≤ _
        refine Nat.le_trans (ext_le _ _ _) (Nat.le_trans (cutB_size _ _) ?_)
        unfold hRest
        split
        · exact cutB_size _ _
        · exact Nat.le_refl _
theorem RdI.scene {N : Nat} {r r' : Rd} {line : ByteArray} (h : RdI N r) (hl : line.size ≤ N) (he : r.scene (headFrom line) = some r') : RdI N r' := by
  cases hh : headFrom line with
  | none => rw [hh] at he; cases he
  | some x =>
    rw [hh] at he
    injection he with he
    subst he
    obtain ⟨h1, h2, h3⟩ := headFrom_sz hh
    refine ⟨.inr (.inr (.inr (.inl rfl))), fun _ => by simp, h.ts, fun y hy => ?_⟩
    rcases List.mem_append.1 hy with hy | hy
    · exact h.sz y hy
    · rw [List.mem_singleton] at hy; subst hy
      exact ⟨Nat.le_trans h1 hl, Nat.le_trans h2 hl, fun p hp => by rw [h3] at hp; cases hp⟩
theorem lineR_inv {N : Nat} {r r' : Rd} {s : ByteArray} (h : RdI N r) (hs : s.size ≤ N) (he : lineR r s = some r') : RdI N r' := by
  unfold lineR at he
  split at he
  · split at he
    · cases he
    · rename_i h12
      injection he with he
      subst he
      refine ⟨?_, fun h2 => ?_, h.ts, h.sz⟩
      · show (if r.wh = 0 then (1 : Int) else 2) = 0 ∨ _
        split
        · exact .inr (.inl rfl)
        · exact .inr (.inr (.inl rfl))
      · dsimp only at h2
        split at h2
        · omega
        · exact h.ne (by have := h.wh; omega)
  · split at he
    · rename_i h4
      have h0 := h.ne (.inr (.inr h4))
      unfold saidR at he
      split at he
      · split at he
        · injection he with he; subst he; exact h.add h0 _ (Nat.le_trans (ext_le _ _ _) hs)
        · cases he
      · split at he
        · split at he
          · injection he with he; subst he; exact h.add h0 _ (Nat.le_trans (ext_le _ _ _) hs)
          · cases he
        · injection he with he; subst he; exact h.add h0 _ hs
    · split at he
      · rename_i h12
        unfold beginsR at he
        split at he
        · split at he
          · exact h.scene (Nat.le_trans (ext_le _ _ _) hs) he
          · cases he
        · split at he
          · cases he
          · rename_i h1
            have h0 := h.ne (.inl (h12.resolve_left h1))
            split at he
            · split at he
              · injection he with he; subst he; exact h.add h0 _ (Nat.le_trans (ext_le _ _ _) hs)
              · cases he
            · split at he
              · split at he
                · injection he with he; subst he; exact h.add h0 _ (Nat.le_trans (ext_le _ _ _) hs)
                · cases he
              · split at he
                · split at he
                  · injection he with he; subst he; exact h.add h0 _ (Nat.le_trans (ext_le _ _ _) hs)
                  · cases he
                · injection he with he; subst he; exact h.add h0 _ hs
      · cases he

/-- A right scene. -/
def okS (x : Scene) : Prop := (x.no = ⟨#[]⟩ ∨ numB x.no = true) ∧ (1 ≤ x.place ∧ x.place ≤ 3) ∧ (1 ≤ x.time ∧ x.time ≤ 5) ∧ setB x.set = true ∧ parasE 0 x.paras = 0
theorem parasE_ok : ∀ (l : List Para) (last : Int), parasE last l = 0 → ∀ p ∈ l, paraE p = 0
  | [], _, _, p, hp => by cases hp
  | q :: r, last, h, p, hp => by
    rw [parasE] at h
    by_cases h1 : paraE q = 0
    · rw [if_neg (by rw [h1]; decide)] at h
      split at h
      · omega
      · rcases List.mem_cons.1 hp with rfl | hp
        · exact h1
        · exact parasE_ok r _ h p hp
    · rw [if_pos h1] at h; exact absurd h h1
theorem scenesE_ok : ∀ (l : List Scene) (k : Nat) (seen : List ByteArray), scenesE k seen l = 0 → ∀ x ∈ l, okS x
  | [], _, _, _, x, hx => by cases hx
  | y :: r, k, seen, h, x, hx => by
    rw [scenesE] at h
    split at h
    · omega
    · rename_i c1
      split at h
      · omega
      · split at h
        · omega
        · rename_i c3
          split at h
          · omega
          · by_cases h0 : sceneE y = 0
            · rw [if_neg (by rw [h0]; decide)] at h
              rcases List.mem_cons.1 hx with rfl | hx
              · unfold sceneE at h0
                split at h0
                · omega
                · rename_i c5
                  refine ⟨?_, by omega, by omega, by simpa using c5, h0⟩
                  by_cases hn : x.no = ⟨#[]⟩
                  · exact .inl hn
                  · refine .inr ?_
                    cases hb : numB x.no with
                    | true => rfl
                    | false => exact absurd ⟨hn, hb⟩ c1
              · exact scenesE_ok r _ _ h x hx
            · rw [if_pos h0] at h; exact absurd h h0
theorem paraE_sz {p : Para} (h : paraE p = 0) : 0 < p.text.size ∧ p.text.size ≤ 2000 ∧ plainB p.text = true ∧ 1 ≤ p.kind ∧ p.kind ≤ 5 := by
  unfold paraE at h
  split at h
  · omega
  · split at h
    · omega
    · rename_i c2
      split at h
      · omega
      · refine ⟨by omega, by omega, ?_, by omega, by omega⟩
        cases hb : plainB p.text with
        | true => rfl
        | false => exact absurd (.inr hb) c2
theorem setB_sz {s : ByteArray} (h : setB s = true) : 1 ≤ s.size ∧ s.size ≤ 60 := by
  unfold setB proB at h
  simp only [Bool.and_eq_true, decide_eq_true_eq] at h
  exact ⟨h.1.1.1.1.1.1, h.1.1.1.1.1.2⟩
structure OkX (x : Script) : Prop where
  t1 : 1 ≤ x.title.size
  t2 : x.title.size ≤ 60
  tp : plainB x.title = true
  sn : x.scenes.length ≤ 300
  pn : parasN x.scenes ≤ 4000
  sc : ∀ y ∈ x.scenes, okS y
theorem chkE_ok {x : Script} (h : chkE x = 0) : OkX x := by
  unfold chkE at h
  split at h
  · omega
  · rename_i c1
    split at h
    · omega
    · refine ⟨by omega, by omega, ?_, by omega, by omega, scenesE_ok _ _ _ h⟩
      cases hb : plainB x.title with
      | true => rfl
      | false => exact absurd (.inr (.inr hb)) c1
theorem lineS_sz (p : Para) : (lineS p).size ≤ p.text.size + 2 := by
  have z1 : (⟨#[64]⟩ : ByteArray).size = 1 := rfl
  have z3 : (⟨#[62, 32]⟩ : ByteArray).size = 2 := rfl
  have z4 : (⟨#[40]⟩ : ByteArray).size = 1 := rfl
  have z5 : (⟨#[41]⟩ : ByteArray).size = 1 := rfl
  have hesc : ∀ b : ByteArray, (escS p.text b).size ≤ p.text.size + 1 := fun b => by
    have z : (⟨#[92]⟩ : ByteArray).size = 1 := rfl
    unfold escS
    split
    · omega
    · split
      · rw [ByteArray.size_append, z]; omega
      · omega
  unfold lineS
  split
  · rw [ByteArray.size_append, z1]; omega
  · split
    · rw [ByteArray.size_append, ByteArray.size_append, z4, z5]; omega
    · split
      · have := hesc ⟨#[40, 92]⟩; omega
      · split
        · rw [ByteArray.size_append, z3]; omega
        · have := hesc ⟨#[64, 62, 35, 92]⟩; omega
theorem paraT_len {p : Para} (h : p.text.size ≤ 2000) : (paraT p).length ≤ 2010 := by
  have := lineS_sz p
  have hl : (lineS p).data.toList.length = (lineS p).size := by simp
  unfold paraT
  split <;> simp only [List.length_append, List.length_cons, List.length_nil, hl] <;> omega
theorem flat_len {α : Type} (f : α → List UInt8) (l : List α) (c : Nat) (h : ∀ x ∈ l, (f x).length ≤ c) : (l.flatMap f).length ≤ c * l.length := by
  induction l with
  | nil => simp
  | cons a r ih =>
    rw [List.flatMap_cons, List.length_append, List.length_cons, Nat.mul_add]
    have h1 := h a (by simp)
    have h2 := ih fun x hx => h x (by simp [hx])
    omega
theorem par_le {l : List Scene} {x : Scene} (hx : x ∈ l) : x.paras.length ≤ parasN l := by
  unfold parasN
  induction l with
  | nil => cases hx
  | cons a r ih =>
    rw [List.map_cons, List.sum_cons]
    rcases List.mem_cons.1 hx with rfl | hx
    · omega
    · have := ih hx; omega
theorem textT_len {x : Script} (h : OkX x) : (textT x).length ≤ 3000000000 := by
  have h1 : ∀ y ∈ x.scenes, (sceneT y).length ≤ 9000000 := fun y hy => by
    obtain ⟨c1, c2, c3, c4, c5⟩ := h.sc y hy
    have hs := setB_sz c4
    have hn : y.no.size ≤ 8 := by
      rcases c1 with c1 | c1
      · rw [c1]; exact Nat.zero_le _
      · exact numB_size c1
    have hh := headS_sz y
    have hp := flat_len paraT y.paras 2010 fun p hp => paraT_len (paraE_sz (parasE_ok _ _ c5 p hp)).2.1
    have hq := par_le hy
    have hpn := h.pn
    have hl : (headS y).data.toList.length = (headS y).size := by simp
    unfold sceneT
    simp only [List.length_append, List.length_cons, List.length_nil, hl]
    have : 2010 * y.paras.length ≤ 2010 * 4000 := Nat.mul_le_mul_left _ (by omega)
    omega
  have h2 := flat_len sceneT x.scenes 9000000 h1
  have hl : x.title.data.toList.length = x.title.size := by simp
  have h3 : 9000000 * x.scenes.length ≤ 9000000 * 300 := Nat.mul_le_mul_left _ h.sn
  have h4 := h.t2
  unfold textT
  simp only [List.length_append, List.length_cons, List.length_nil, hl]
  omega
end Go.Proofs.YtmofncdjhdnoiaaGreatDoor

/- The reference's reader of scripts, line by line, against the program's: in plain words. No program in sight. -/
namespace Go.Proofs.YtmofncdjhdnoiaaGreatDoor
set_option linter.unusedVariables false
open Go.RowKit

/-- A further line of a speech group. -/
def grpR (s : ByteArray) : Option Para :=
  if byteAt s 0 = 40 then if Lib.hasSuffix s.data.toList (⟨#[41]⟩ : ByteArray).data.toList = true ∧ 2 ≤ s.size then some ⟨3, s.extract 1 (s.size - 1)⟩ else none
  else if byteAt s 0 = 92 then if marked s [40, 92] = true then some ⟨4, s.extract 1 s.size⟩ else none
  else some ⟨4, s⟩
/-- The first line of a block. -/
def blkR (s : ByteArray) : Option Para :=
  if byteAt s 0 = 64 then if nameB (s.extract 1 s.size) = true then some ⟨2, s.extract 1 s.size⟩ else none
  else if byteAt s 0 = 62 then if Lib.hasPrefix s.data.toList (⟨#[62, 32]⟩ : ByteArray).data.toList = true ∧ ¬ s.size = 2 then some ⟨5, s.extract 2 s.size⟩ else none
  else if byteAt s 0 = 92 then if marked s [64, 62, 35, 92] = true then some ⟨1, s.extract 1 s.size⟩ else none
  else if byteAt s 0 = 35 then none else some ⟨1, s⟩
/-- What a line adds: the scenes, and whether a group goes on; b is the line before it. -/
def takenS (l : List Scene) (s b : ByteArray) (g : Bool) : Option (List Scene × Bool) :=
  if s.size = 0 then (if b.size = 0 then none else some (l, false))
  else if ¬ b.size = 0 then (if g = false then none else (grpR s).map fun p => (addTo l p, true))
  else if Lib.hasPrefix s.data.toList (⟨#[35, 32]⟩ : ByteArray).data.toList = true then (headFrom (s.extract 2 s.size)).map fun x => (l ++ [x], false)
  else if l = [] then none
  else (blkR s).map fun p => (addTo l p, decide (p.kind = 2))
/-- Where the two readers stand alike. -/
def RdM (r : Rd) (l : List Scene) (b : ByteArray) (g : Bool) : Prop :=
  r.scenes = l ∧ ((¬ b.size = 0 ∧ g = false ∧ l = [] ∧ r.wh = 0) ∨ (b.size = 0 ∧ g = false ∧ l = [] ∧ r.wh = 1) ∨ (b.size = 0 ∧ g = false ∧ ¬ l = [] ∧ r.wh = 2) ∨ (¬ b.size = 0 ∧ g = false ∧ ¬ l = [] ∧ r.wh = 3) ∨ (¬ b.size = 0 ∧ g = true ∧ ¬ l = [] ∧ r.wh = 4))
theorem addTo_ne {l : List Scene} (h : ¬ l = []) (p : Para) : ¬ addTo l p = [] := fun e => by
  have := congrArg List.length e
  unfold addTo at this
  rw [List.length_modify] at this
  exact h (List.eq_nil_of_length_eq_zero this)
theorem grp_kind {s : ByteArray} {p : Para} (h : grpR s = some p) : p.kind = 3 ∨ p.kind = 4 := by
  unfold grpR at h
  split at h
  · split at h
    · injection h with h; subst h; exact .inl rfl
    · cases h
  · split at h
    · split at h
      · injection h with h; subst h; exact .inr rfl
      · cases h
    · injection h with h; subst h; exact .inr rfl
theorem blk_kind {s : ByteArray} {p : Para} (h : blkR s = some p) : p.kind = 1 ∨ p.kind = 2 ∨ p.kind = 5 := by
  unfold blkR at h
  split at h
  · split at h
    · injection h with h; subst h; exact .inr (.inl rfl)
    · cases h
  · split at h
    · split at h
      · injection h with h; subst h; exact .inr (.inr rfl)
      · cases h
    · split at h
      · split at h
        · injection h with h; subst h; exact .inl rfl
        · cases h
      · split at h
        · cases h
        · injection h with h; subst h; exact .inl rfl
theorem said_grp (r : Rd) (s : ByteArray) : saidR r s = (grpR s).map r.add := by
  unfold saidR grpR
  split
  · split <;> rfl
  · split
    · split <;> rfl
    · rfl
theorem pre_byte {s : ByteArray} (h : Lib.hasPrefix s.data.toList (⟨#[35, 32]⟩ : ByteArray).data.toList = true) : byteAt s 0 = 35 := by
  unfold byteAt
  have h2 : ([35, 32] : List UInt8).isPrefixOf s.data.toList = true := h
  obtain ⟨t, ht⟩ := List.isPrefixOf_iff_prefix.1 h2
  rw [← ht]; rfl
theorem begins_blk {r : Rd} {s : ByteArray} (h : ¬ Lib.hasPrefix s.data.toList (⟨#[35, 32]⟩ : ByteArray).data.toList = true) : beginsR r s = if r.wh = 1 then none else (blkR s).map r.add := by
  unfold beginsR
  rw [if_neg h]
  by_cases h1 : r.wh = 1
  · rw [if_pos h1, if_pos h1]; simp
  rw [if_neg h1, if_neg h1]
  unfold blkR
  by_cases h35 : byteAt s 0 = 35
  · rw [if_pos h35, if_neg (by rw [h35]; decide), if_neg (by rw [h35]; decide), if_neg (by rw [h35]; decide), if_pos h35]; rfl
  rw [if_neg h35, if_neg h35]
  split
  · split <;> rfl
  · split
    · split <;> rfl
    · split
      · split <;> rfl
      · rfl
theorem RdM.add {r : Rd} {l : List Scene} {s : ByteArray} (p : Para) (h : r.scenes = l) (hl : ¬ l = []) (hs : ¬ s.size = 0) (g : Bool) (hg : g = decide (p.kind = 2 ∨ p.kind = 3 ∨ p.kind = 4)) : RdM (r.add p) (addTo l p) s g := by
  refine ⟨by rw [← h]; rfl, ?_⟩
  have hw : (r.add p).wh = if p.kind = 2 ∨ p.kind = 3 ∨ p.kind = 4 then 4 else 3 := rfl
  by_cases hk : p.kind = 2 ∨ p.kind = 3 ∨ p.kind = 4
  · rw [if_pos hk] at hw
    exact .inr (.inr (.inr (.inr ⟨hs, by rw [hg, decide_eq_true hk], addTo_ne hl p, hw⟩)))
  · rw [if_neg hk] at hw
    exact .inr (.inr (.inr (.inl ⟨hs, by rw [hg, decide_eq_false hk], addTo_ne hl p, hw⟩)))
/-- The two readers take a line alike. -/
theorem taken_line {r : Rd} {l : List Scene} {b : ByteArray} {g : Bool} (s : ByteArray) (h : RdM r l b g) :
    match takenS l s b g with | none => lineR r s = none | some q => ∃ r', lineR r s = some r' ∧ RdM r' q.1 s q.2 ∧ r'.title = r.title := by
  obtain ⟨hl, hc⟩ := h
  unfold takenS lineR
  by_cases hs : s.size = 0
  · rw [if_pos hs, if_pos hs]
    rcases hc with ⟨c1, c2, c3, c4⟩ | ⟨c1, c2, c3, c4⟩ | ⟨c1, c2, c3, c4⟩ | ⟨c1, c2, c3, c4⟩ | ⟨c1, c2, c3, c4⟩
    · rw [if_neg c1, if_neg (by omega), if_pos c4]
      exact ⟨_, rfl, ⟨hl, .inr (.inl ⟨hs, rfl, c3, rfl⟩)⟩, rfl⟩
    · rw [if_pos c1, if_pos (by omega)]
    · rw [if_pos c1, if_pos (by omega)]
    · rw [if_neg c1, if_neg (by omega), if_neg (by omega)]
      exact ⟨_, rfl, ⟨hl, .inr (.inr (.inl ⟨hs, rfl, c3, rfl⟩))⟩, rfl⟩
    · rw [if_neg c1, if_neg (by omega), if_neg (by omega)]
      exact ⟨_, rfl, ⟨hl, .inr (.inr (.inl ⟨hs, rfl, c3, rfl⟩))⟩, rfl⟩
  rw [if_neg hs, if_neg hs]
  by_cases hb : b.size = 0
  · rw [if_neg (fun k => k hb)]
    have hw : r.wh = 1 ∧ l = [] ∨ r.wh = 2 ∧ ¬ l = [] := by
      rcases hc with ⟨c1, c2, c3, c4⟩ | ⟨c1, c2, c3, c4⟩ | ⟨c1, c2, c3, c4⟩ | ⟨c1, c2, c3, c4⟩ | ⟨c1, c2, c3, c4⟩
      · exact absurd hb c1
      · exact .inl ⟨c4, c3⟩
      · exact .inr ⟨c4, c3⟩
      · exact absurd hb c1
      · exact absurd hb c1
    rw [if_neg (show ¬ r.wh = 4 by omega), if_pos (show r.wh = 1 ∨ r.wh = 2 by omega)]
    by_cases hp : Lib.hasPrefix s.data.toList (⟨#[35, 32]⟩ : ByteArray).data.toList = true
    · rw [if_pos hp]
      have e : beginsR r s = r.scene (headFrom (s.extract 2 s.size)) := by unfold beginsR; rw [if_pos (pre_byte hp), if_pos hp]
      rw [e]
      cases headFrom (s.extract 2 s.size) with
      | none => rfl
      | some x => exact ⟨_, rfl, ⟨by show r.scenes ++ [x] = l ++ [x]; rw [hl], .inr (.inr (.inr (.inl ⟨hs, rfl, by simp, rfl⟩)))⟩, rfl⟩
    · rw [if_neg hp, begins_blk hp]
      rcases hw with ⟨w1, w2⟩ | ⟨w1, w2⟩
      · rw [if_pos w2, if_pos w1]
      · rw [if_neg w2, if_neg (by omega)]
        cases hk : blkR s with
        | none => rfl
        | some p =>
          refine ⟨_, rfl, RdM.add p hl w2 hs _ ?_, rfl⟩
          have := blk_kind hk
          rw [decide_eq_decide]
          omega
  · rw [if_pos hb]
    rcases hc with ⟨c1, c2, c3, c4⟩ | ⟨c1, c2, c3, c4⟩ | ⟨c1, c2, c3, c4⟩ | ⟨c1, c2, c3, c4⟩ | ⟨c1, c2, c3, c4⟩
    · rw [if_pos c2, if_neg (by omega), if_neg (by omega)]
    · exact absurd c1 hb
    · exact absurd c1 hb
    · rw [if_pos c2, if_neg (by omega), if_neg (by omega)]
    · rw [if_neg (by rw [c2]; simp), if_pos c4, said_grp]
      cases hk : grpR s with
      | none => rfl
      | some p =>
        refine ⟨_, rfl, RdM.add p hl c3 hs _ ?_, rfl⟩
        have := grp_kind hk
        exact (decide_eq_true (by omega)).symm
end Go.Proofs.YtmofncdjhdnoiaaGreatDoor

/- The reference's reader of scripts gives the program's answer. No program in sight. -/
namespace Go.Proofs.YtmofncdjhdnoiaaGreatDoor
set_option linter.unusedVariables false
open Go.RowKit

theorem RdM.blank {r : Rd} {l : List Scene} {b : ByteArray} {g : Bool} (h : RdM r l b g) : b.size = 0 ↔ r.wh = 1 ∨ r.wh = 2 := by
  rcases h.2 with ⟨c1, _, _, c4⟩ | ⟨c1, _, _, c4⟩ | ⟨c1, _, _, c4⟩ | ⟨c1, _, _, c4⟩ | ⟨c1, _, _, c4⟩ <;> constructor <;> intro k <;> first | omega | exact absurd k c1
abbrev titL : ByteArray := ⟨#[116, 105, 116, 108, 101, 58, 32]⟩
theorem tit_size {s : ByteArray} (h : Lib.hasPrefix s.data.toList titL.data.toList = true) : ¬ s.size = 0 := fun e => by
  have h2 : ([116, 105, 116, 108, 101, 58, 32] : List UInt8).isPrefixOf s.data.toList = true := h
  have := (List.isPrefixOf_iff_prefix.1 h2).length_le
  have h3 : s.data.toList.length = s.size := by simp
  rw [h3, e] at this
  simp at this
end Go.Proofs.YtmofncdjhdnoiaaGreatDoor

/- A heading is read back as it was written. No program in sight. -/
namespace Go.Proofs.YtmofncdjhdnoiaaGreatDoor
set_option linter.unusedVariables false
open Go.RowKit

theorem occ_get {s : List UInt8} {i : Nat} (h : Lib.occAt s [32, 45, 32] i = true) : s[i]? = some 32 ∧ s[i + 2]? = some 32 := by
  unfold Lib.occAt at h
  obtain ⟨t, ht⟩ := List.isPrefixOf_iff_prefix.1 h
  have h0 := congrArg (fun l => l[0]?) ht
  have h2 := congrArg (fun l => l[2]?) ht
  simp only [List.getElem?_drop] at h0 h2
  simp at h0 h2
  exact ⟨h0.symm, h2.symm⟩
theorem lastIndex_app (a b : List UInt8) (hb : ∀ x ∈ b, x ≠ 32) : Lib.lastIndex (a ++ [32, 45, 32] ++ b) [32, 45, 32] = a.length := by
  have hl : (a ++ [32, 45, 32] ++ b).length = a.length + 3 + b.length := by simp; omega
  have hat : Lib.occAt (a ++ [32, 45, 32] ++ b) [32, 45, 32] a.length = true := by
    unfold Lib.occAt
    rw [List.append_assoc, List.drop_left' rfl]
    exact List.isPrefixOf_iff_prefix.2 ⟨b, rfl⟩
  have hno : ∀ i, a.length < i → Lib.occAt (a ++ [32, 45, 32] ++ b) [32, 45, 32] i = false := fun i hi => by
    cases h : Lib.occAt (a ++ [32, 45, 32] ++ b) [32, 45, 32] i with
    | false => rfl
    | true =>
      obtain ⟨h0, h2⟩ := occ_get h
      have hbk : ∀ k, a.length + 3 ≤ k → (a ++ [32, 45, 32] ++ b)[k]? ≠ some 32 := fun k hk e => by
        rw [List.getElem?_append_right (by simp; omega)] at e
        exact hb 32 (List.mem_iff_getElem?.2 ⟨_, e⟩) rfl
      by_cases h3 : a.length + 3 ≤ i
      · exact absurd h0 (hbk i h3)
      · by_cases h4 : i = a.length + 1
        · subst h4
          rw [List.getElem?_append_left (by simp), List.getElem?_append_right (by omega)] at h0
          simp at h0
        · exact absurd h2 (hbk (i + 2) (by omega))
  unfold Lib.lastIndex
  rw [if_pos (by rw [hl]; show 3 ≤ _; omega), hl]
  rcases Lib.lastOcc_spec (a ++ [32, 45, 32] ++ b) [32, 45, 32] (a.length + 3 + b.length - ([32, 45, 32] : List UInt8).length + 1) with ⟨_, hn⟩ | ⟨i, hi, e, hc, hn⟩
  · rw [hn a.length (by simp; omega)] at hat; cases hat
  · rw [e]
    rcases Nat.lt_trichotomy i a.length with h | h | h
    · rw [hn a.length h (by simp; omega)] at hat; cases hat
    · rw [h]
    · rw [hno i h] at hc; cases hc
theorem placeS_no : ∀ q : Nat, ∀ x ∈ (placeS q).data.toList, x ≠ 32
  | 0 => by decide
  | 1 => by decide
  | 2 => by decide
  | 3 => by decide
  | q + 4 => by show ∀ x ∈ (⟨#[]⟩ : ByteArray).data.toList, x ≠ 32; decide
theorem timeS_no : ∀ q : Nat, ∀ x ∈ (timeS q).data.toList, x ≠ 32
  | 0 => by decide
  | 1 => by decide
  | 2 => by decide
  | 3 => by decide
  | 4 => by decide
  | 5 => by decide
  | q + 6 => by show ∀ x ∈ (⟨#[]⟩ : ByteArray).data.toList, x ≠ 32; decide
theorem numB_no {s : ByteArray} (h : numB s = true) : ∀ x ∈ s.data.toList, x ≠ 32 := fun x hx e => by
  subst e
  unfold numB at h
  simp only [Bool.and_eq_true] at h
  obtain ⟨⟨⟨h1, _⟩, _⟩, _⟩ := h
  obtain ⟨t, ht⟩ := List.takeWhile_prefix digB (l := s.data.toList)
  have hd : s.data.toList.drop (numK s) = t := by
    unfold numK
    have h3 : (s.data.toList.takeWhile digB ++ t).drop (s.data.toList.takeWhile digB).length = t := List.drop_left' rfl
    rw [ht] at h3
    exact h3
  rw [← ht] at hx
  rcases List.mem_append.1 hx with hx | hx
  · have h2 : digB 32 = true := List.all_eq_true.1 List.all_takeWhile 32 hx
    revert h2; decide
  · rw [← hd] at hx
    have h2 := List.all_eq_true.1 h1 32 hx
    revert h2; decide
theorem head_cut (p t : Nat) (set : ByteArray) : cutA (placeS p ++ ⟨#[32]⟩ ++ set ++ ⟨#[32, 45, 32]⟩ ++ timeS t) 32 = placeS p ∧ cutB (placeS p ++ ⟨#[32]⟩ ++ set ++ ⟨#[32, 45, 32]⟩ ++ timeS t) 32 = set ++ ⟨#[32, 45, 32]⟩ ++ timeS t ∧ cutF (placeS p ++ ⟨#[32]⟩ ++ set ++ ⟨#[32, 45, 32]⟩ ++ timeS t) 32 = true := by
  have e : placeS p ++ ⟨#[32]⟩ ++ set ++ ⟨#[32, 45, 32]⟩ ++ timeS t = placeS p ++ ⟨#[32]⟩ ++ (set ++ ⟨#[32, 45, 32]⟩ ++ timeS t) := by simp only [ByteArray.append_assoc]
  rw [e]
  obtain ⟨_, h1, h2, h3⟩ := cut_app (a := placeS p) (b := set ++ ⟨#[32, 45, 32]⟩ ++ timeS t) (placeS_no p)
  exact ⟨h2, h3, h1⟩
theorem placeS_num : ∀ p : Nat, 1 ≤ p → p ≤ 3 → numB (placeS p) = false ∧ placeI (placeS p) = p
  | 0, h, _ => absurd h (by decide)
  | 1, _, _ => by decide +kernel
  | 2, _, _ => by decide +kernel
  | 3, _, _ => by decide +kernel
  | p + 4, _, h => absurd h (by omega)
theorem timeS_num : ∀ t : Nat, 1 ≤ t → t ≤ 5 → timeI (timeS t) = t
  | 0, h, _ => absurd h (by decide)
  | 1, _, _ => by decide +kernel
  | 2, _, _ => by decide +kernel
  | 3, _, _ => by decide +kernel
  | 4, _, _ => by decide +kernel
  | 5, _, _ => by decide +kernel
  | t + 6, _, h => absurd h (by omega)
theorem hK_app (set : ByteArray) (t : Nat) : hK (set ++ ⟨#[32, 45, 32]⟩ ++ timeS t) = set.size := by
  unfold hK
  have e : (set ++ ⟨#[32, 45, 32]⟩ ++ timeS t).data.toList = set.data.toList ++ [32, 45, 32] ++ (timeS t).data.toList := by simp
  rw [e, show (⟨#[32, 45, 32]⟩ : ByteArray).data.toList = [32, 45, 32] from rfl, lastIndex_app _ _ (timeS_no t)]
  simp
theorem headR_app (no set : ByteArray) (p t : Nat) (hp : 1 ≤ p ∧ p ≤ 3) (ht : 1 ≤ t ∧ t ≤ 5) (hs : setB set = true) : headR no (placeS p) (set ++ ⟨#[32, 45, 32]⟩ ++ timeS t) = some ⟨no, p, set, t, []⟩ := by
  have hk := hK_app set t
  have e1 : (set ++ ⟨#[32, 45, 32]⟩ ++ timeS t).extract 0 set.size = set := by
    apply ba_ext; rw [extract_list']; simp
  have e2 : (set ++ ⟨#[32, 45, 32]⟩ ++ timeS t).extract (set.size + 3) (set ++ ⟨#[32, 45, 32]⟩ ++ timeS t).size = timeS t := by
    apply ba_ext
    rw [extract_list']
    have e : (set ++ ⟨#[32, 45, 32]⟩ ++ timeS t).data.toList = (set.data.toList ++ [32, 45, 32]) ++ (timeS t).data.toList := by simp
    rw [e, List.drop_left' (by simp), List.take_of_length_le (by have z2 : (⟨#[32, 45, 32]⟩ : ByteArray).size = 3 := rfl; rw [ByteArray.size_append, ByteArray.size_append, z2]; simp)]
  unfold headR
  rw [hk, if_neg (by omega)]
  simp only [Int.toNat_natCast]
  rw [e1, e2, (placeS_num p hp.1 hp.2).2, timeS_num t ht.1 ht.2, if_neg (by rw [hs]; simp; omega)]
theorem head_back (x : Scene) (h : okS x) : headFrom (headS x) = some { x with paras := [] } := by
  obtain ⟨no, place, set, time, paras⟩ := x
  obtain ⟨hno, hpl, hti, hs, _⟩ := h
  dsimp only at *
  obtain ⟨p, rfl⟩ := Int.eq_ofNat_of_zero_le (show 0 ≤ place by omega)
  obtain ⟨t, rfl⟩ := Int.eq_ofNat_of_zero_le (show 0 ≤ time by omega)
  have hp : 1 ≤ p ∧ p ≤ 3 := by omega
  have ht : 1 ≤ t ∧ t ≤ 5 := by omega
  obtain ⟨c1, c2, c3⟩ := head_cut p t set
  have key := headR_app no set p t hp ht hs
  unfold headFrom hR2 headS
  dsimp only
  simp only [Int.toNat_natCast]
  by_cases h0 : no = ⟨#[]⟩
  · subst h0
    rw [if_pos rfl]
    have hn : hNo (placeS p ++ ⟨#[32]⟩ ++ set ++ ⟨#[32, 45, 32]⟩ ++ timeS t) = ⟨#[]⟩ := by
      unfold hNo; rw [c1, (placeS_num p hp.1 hp.2).1, if_neg (by simp)]
    have hr : hRest (placeS p ++ ⟨#[32]⟩ ++ set ++ ⟨#[32, 45, 32]⟩ ++ timeS t) = placeS p ++ ⟨#[32]⟩ ++ set ++ ⟨#[32, 45, 32]⟩ ++ timeS t := by
      unfold hRest; rw [c1, (placeS_num p hp.1 hp.2).1, if_neg (by simp)]
    rw [hn, hr, c1, c2]
    exact key
  · rw [if_neg h0]
    have hnb := hno.resolve_left h0
    obtain ⟨_, d1, d2, d3⟩ := cut_app (a := no) (b := placeS p ++ ⟨#[32]⟩ ++ set ++ ⟨#[32, 45, 32]⟩ ++ timeS t) (numB_no hnb)
    have hn : hNo (no ++ ⟨#[32]⟩ ++ (placeS p ++ ⟨#[32]⟩ ++ set ++ ⟨#[32, 45, 32]⟩ ++ timeS t)) = no := by
      unfold hNo; rw [d1, d2, if_pos ⟨rfl, hnb⟩]
    have hr : hRest (no ++ ⟨#[32]⟩ ++ (placeS p ++ ⟨#[32]⟩ ++ set ++ ⟨#[32, 45, 32]⟩ ++ timeS t)) = placeS p ++ ⟨#[32]⟩ ++ set ++ ⟨#[32, 45, 32]⟩ ++ timeS t := by
      unfold hRest; rw [d1, d2, if_pos ⟨rfl, hnb⟩, d3]
    rw [hn, hr, c1, c2]
    exact key
end Go.Proofs.YtmofncdjhdnoiaaGreatDoor

/- A heading read by trying each way to divide the line. No program in sight. -/
namespace Go.Proofs.YtmofncdjhdnoiaaGreatDoor
set_option linter.unusedVariables false
open Go.RowKit

def triP (s p : ByteArray) : ByteArray := ⟨(Lib.trimPrefix s.data.toList p.data.toList).toArray⟩
def triS (s p : ByteArray) : ByteArray := ⟨(Lib.trimSuffix s.data.toList p.data.toList).toArray⟩
def prefB (s p : ByteArray) : Bool := Lib.hasPrefix s.data.toList p.data.toList
def suffB (s p : ByteArray) : Bool := Lib.hasSuffix s.data.toList p.data.toList
def hfNo (line : ByteArray) : ByteArray := if Lib.containsS placeL (cutA line 32) = true then ⟨#[]⟩ else cutA line 32
def hfRest (line : ByteArray) : ByteArray := if Lib.containsS placeL (cutA line 32) = true then line else cutB line 32
def hfSet (rest : ByteArray) (p t : Nat) : ByteArray := triS (triP rest (placeS p ++ ⟨#[32]⟩)) (⟨#[32, 45, 32]⟩ ++ timeS t)
def hfX (no rest : ByteArray) (p t : Nat) : Scene := ⟨no, p, hfSet rest p t, t, []⟩
def hfC (line no rest : ByteArray) (p t : Nat) : Prop := 0 < p ∧ 0 < t ∧ prefB rest (placeS p ++ ⟨#[32]⟩) = true ∧ suffB (triP rest (placeS p ++ ⟨#[32]⟩)) (⟨#[32, 45, 32]⟩ ++ timeS t) = true ∧ headE (hfX no rest p t) = 0 ∧ headS (hfX no rest p t) = line
theorem headE_ok {x : Scene} (h : headE x = 0) (hp : x.paras = []) : okS x := by
  unfold headE at h
  split at h
  · omega
  · rename_i c1
    split at h
    · omega
    · split at h
      · omega
      · rename_i c3
        refine ⟨?_, by omega, by omega, by simpa using c3, by rw [hp]; rfl⟩
        by_cases hn : x.no = ⟨#[]⟩
        · exact .inl hn
        · refine .inr ?_
          cases hb : numB x.no with
          | true => rfl
          | false => exact absurd ⟨hn, hb⟩ c1
theorem headE_zero {x : Scene} (h : okS x) : headE x = 0 := by
  obtain ⟨h1, h2, h3, h4, _⟩ := h
  unfold headE
  rw [if_neg (by rintro ⟨a, b⟩; rcases h1 with h1 | h1; exact a h1; rw [h1] at b; cases b), if_neg (by omega), if_neg (by rw [h4]; decide)]
theorem hf_yes {line no rest : ByteArray} {p t : Nat} (h : hfC line no rest p t) : headFrom line = some (hfX no rest p t) := by
  obtain ⟨_, _, _, _, h5, h6⟩ := h
  have := head_back _ (headE_ok h5 rfl)
  rw [h6] at this
  exact this
theorem placeI_S {s : ByteArray} (h : 1 ≤ placeI s) : ∃ p : Nat, placeI s = p ∧ 1 ≤ p ∧ p ≤ 3 ∧ placeS p = s := by
  have hm : s ∈ placeL := (Lib.idxOfS_nonneg_iff placeL s).1 (by unfold placeI at h; omega)
  simp only [placeL, List.mem_cons, List.not_mem_nil, or_false] at hm
  rcases hm with rfl | rfl | rfl | rfl
  · exact absurd h (by decide +kernel)
  · exact ⟨1, by decide +kernel, by decide, by decide, rfl⟩
  · exact ⟨2, by decide +kernel, by decide, by decide, rfl⟩
  · exact ⟨3, by decide +kernel, by decide, by decide, rfl⟩
theorem timeI_S {s : ByteArray} (h : 1 ≤ timeI s) : ∃ p : Nat, timeI s = p ∧ 1 ≤ p ∧ p ≤ 5 ∧ timeS p = s := by
  have hm : s ∈ timeL := (Lib.idxOfS_nonneg_iff timeL s).1 (by unfold timeI at h; omega)
  simp only [timeL, List.mem_cons, List.not_mem_nil, or_false] at hm
  rcases hm with rfl | rfl | rfl | rfl | rfl | rfl
  · exact absurd h (by decide +kernel)
  · exact ⟨1, by decide +kernel, by decide, by decide, rfl⟩
  · exact ⟨2, by decide +kernel, by decide, by decide, rfl⟩
  · exact ⟨3, by decide +kernel, by decide, by decide, rfl⟩
  · exact ⟨4, by decide +kernel, by decide, by decide, rfl⟩
  · exact ⟨5, by decide +kernel, by decide, by decide, rfl⟩
/-- Where the last dash stands. -/
theorem hK_at {r : ByteArray} (h : 0 ≤ hK r) : ∃ k : Nat, hK r = k ∧ r = r.extract 0 k ++ ⟨#[32, 45, 32]⟩ ++ r.extract (k + 3) r.size := by
  unfold hK at h ⊢
  unfold Lib.lastIndex at h ⊢
  split at h
  · rename_i hl
    rw [if_pos hl]
    rcases Lib.lastOcc_spec r.data.toList (⟨#[32, 45, 32]⟩ : ByteArray).data.toList (r.data.toList.length - (⟨#[32, 45, 32]⟩ : ByteArray).data.toList.length + 1) with ⟨e, _⟩ | ⟨i, hi, e, hc, _⟩
    · rw [e] at h; exact absurd h (by decide)
    · refine ⟨i, e, ?_⟩
      unfold Lib.occAt at hc
      obtain ⟨t, ht⟩ := List.isPrefixOf_iff_prefix.1 hc
      apply ba_ext
      simp only [ByteArray.data_append, Array.toList_append, extract_list', Nat.sub_zero, List.drop_zero]
      have h3 : r.data.toList.drop (i + 3) = t := by
        rw [← List.drop_drop, ← ht]
        rfl
      rw [h3, List.take_of_length_le (l := t) (by rw [← h3, List.length_drop]; simp), List.append_assoc, ht, List.take_append_drop]
  · exact absurd h (by decide)
theorem cut_back {s : ByteArray} {c : UInt8} (h : cutF s c = true) : s = cutA s c ++ ⟨#[c]⟩ ++ cutB s c := by
  unfold cutF at h
  have hlt : cutI s c < s.size := of_decide_eq_true h
  have hl : cutI s c < s.data.toList.length := by simpa using hlt
  have hc : s.data.toList[cutI s c] = c := by have := List.findIdx_getElem (p := (· == c)) (w := hl); exact eq_of_beq this
  apply ba_ext
  unfold cutA cutB
  simp only [ByteArray.data_append, Array.toList_append, extract_list', Nat.sub_zero, List.drop_zero]
  rw [List.take_of_length_le (l := s.data.toList.drop _) (by rw [List.length_drop]; simp)]
  have h2 := List.drop_eq_getElem_cons hl
  rw [hc] at h2
  rw [List.append_assoc, show (⟨#[c]⟩ : ByteArray).data.toList ++ s.data.toList.drop (cutI s c + 1) = s.data.toList.drop (cutI s c) from h2.symm, List.take_append_drop]
theorem cutB_no {s : ByteArray} {c : UInt8} (h : cutF s c = false) : cutB s c = ⟨#[]⟩ := by
  unfold cutF at h
  have hlt : ¬ cutI s c < s.size := of_decide_eq_false h
  apply ba_ext
  unfold cutB
  rw [extract_list']
  rw [List.drop_eq_nil_of_le (by simp; omega), List.take_nil]
theorem triP_app (a s : ByteArray) : triP (a ++ s) a = s := by
  apply ba_ext
  unfold triP Lib.trimPrefix
  rw [show Lib.hasPrefix (a ++ s).data.toList a.data.toList = true from (by
    unfold Lib.hasPrefix
    rw [show (a ++ s).data.toList = a.data.toList ++ s.data.toList by simp]
    exact List.isPrefixOf_iff_prefix.2 ⟨_, rfl⟩), if_pos rfl, show (a ++ s).data.toList = a.data.toList ++ s.data.toList by simp, List.drop_left' rfl]
theorem triS_app (s b : ByteArray) : triS (s ++ b) b = s := by
  apply ba_ext
  unfold triS Lib.trimSuffix
  rw [show Lib.hasSuffix (s ++ b).data.toList b.data.toList = true from (by
    unfold Lib.hasSuffix
    rw [show (s ++ b).data.toList = s.data.toList ++ b.data.toList by simp]
    exact List.isSuffixOf_iff_suffix.2 ⟨_, rfl⟩), if_pos rfl, show (s ++ b).data.toList = s.data.toList ++ b.data.toList by simp, List.length_append, Nat.add_sub_cancel, List.take_left' rfl]
theorem num_no_place {s : ByteArray} (h : numB s = true) : s ∉ placeL := fun hm => by
  simp only [placeL, List.mem_cons, List.not_mem_nil, or_false] at hm
  rcases hm with rfl | rfl | rfl | rfl <;> exact absurd h (by decide +kernel)
theorem place_mem (p : Nat) (h : p ≤ 3) : placeS p ∈ placeL := by
  match p, h with
  | 0, _ => exact List.mem_cons_self
  | 1, _ => exact List.mem_cons_of_mem _ List.mem_cons_self
  | 2, _ => exact List.mem_cons_of_mem _ (List.mem_cons_of_mem _ List.mem_cons_self)
  | 3, _ => exact List.mem_cons_of_mem _ (List.mem_cons_of_mem _ (List.mem_cons_of_mem _ List.mem_cons_self))
theorem hf_no {line : ByteArray} {x : Scene} (h : headFrom line = some x) : cutF line 32 = true ∧ ∃ p t : Nat, p ≤ 3 ∧ t ≤ 5 ∧ hfC line (hfNo line) (hfRest line) p t := by
  unfold headFrom headR at h
  split at h
  · cases h
  · rename_i c1
    split at h
    · cases h
    · rename_i c2
      have hset : setB ((hR2 line).extract 0 (hK (hR2 line)).toNat) = true := by
        cases hb : setB ((hR2 line).extract 0 (hK (hR2 line)).toNat) with
        | true => rfl
        | false => exact absurd (.inr (.inr hb)) c2
      obtain ⟨k, hk, hr2⟩ := hK_at (r := hR2 line) (by omega)
      rw [hk] at c2 hset
      simp only [Int.toNat_natCast] at c2 hset
      obtain ⟨p, hp, p1, p3, hps⟩ := placeI_S (s := cutA (hRest line) 32) (by omega)
      obtain ⟨t, ht, t1, t5, hts⟩ := timeI_S (s := (hR2 line).extract (k + 3) (hR2 line).size) (by omega)
      rw [← hts] at hr2
      generalize hsg : (hR2 line).extract 0 k = set at *
      have hcf : cutF (hRest line) 32 = true := by
        cases hb : cutF (hRest line) 32 with
        | true => rfl
        | false =>
          have e : hR2 line = ⟨#[]⟩ := cutB_no hb
          rw [e] at hr2
          have := congrArg ByteArray.size hr2
          rw [ByteArray.size_append, ByteArray.size_append, show (⟨#[32, 45, 32]⟩ : ByteArray).size = 3 from rfl, show (⟨#[]⟩ : ByteArray).size = 0 from rfl] at this
          omega
      have hrest : hRest line = placeS p ++ ⟨#[32]⟩ ++ set ++ ⟨#[32, 45, 32]⟩ ++ timeS t := by
        have h1 := cut_back hcf
        rw [← hps, show cutB (hRest line) 32 = hR2 line from rfl, hr2] at h1
        rw [h1]
        simp only [ByteArray.append_assoc]
      have key : ∀ no rest, rest = placeS p ++ ⟨#[32]⟩ ++ set ++ ⟨#[32, 45, 32]⟩ ++ timeS t → (no = ⟨#[]⟩ ∧ line = rest ∨ ¬ no = ⟨#[]⟩ ∧ numB no = true ∧ line = no ++ ⟨#[32]⟩ ++ rest) → hfC line no rest p t := fun no rest hr hn => by
        have e1 : rest = (placeS p ++ ⟨#[32]⟩) ++ (set ++ (⟨#[32, 45, 32]⟩ ++ timeS t)) := by rw [hr]; simp only [ByteArray.append_assoc]
        have e2 : triP rest (placeS p ++ ⟨#[32]⟩) = set ++ (⟨#[32, 45, 32]⟩ ++ timeS t) := by rw [e1]; exact triP_app _ _
        have e3 : hfSet rest p t = set := by unfold hfSet; rw [e2]; exact triS_app _ _
        have hx : hfX no rest p t = ⟨no, p, set, t, []⟩ := by unfold hfX; rw [e3]
        refine ⟨by omega, by omega, ?_, ?_, ?_, ?_⟩
        · rw [e1]
          unfold prefB Lib.hasPrefix
          rw [ByteArray.data_append, Array.toList_append]
          exact List.isPrefixOf_iff_prefix.2 ⟨_, rfl⟩
        · rw [e2]
          unfold suffB Lib.hasSuffix
          rw [show (set ++ (⟨#[32, 45, 32]⟩ ++ timeS t) : ByteArray).data.toList = set.data.toList ++ (⟨#[32, 45, 32]⟩ ++ timeS t : ByteArray).data.toList by rw [ByteArray.data_append, Array.toList_append]]
          exact List.isSuffixOf_iff_suffix.2 ⟨_, rfl⟩
        · rw [hx]
          refine headE_zero ⟨?_, ⟨by show (1 : Int) ≤ (p : Int); omega, by show (p : Int) ≤ 3; omega⟩, ⟨by show (1 : Int) ≤ (t : Int); omega, by show (t : Int) ≤ 5; omega⟩, hset, rfl⟩
          rcases hn with ⟨h, _⟩ | ⟨_, h, _⟩
          · exact .inl h
          · exact .inr h
        · rw [hx]
          unfold headS
          dsimp only
          simp only [Int.toNat_natCast]
          rcases hn with ⟨h, h2⟩ | ⟨h, _, h2⟩
          · rw [if_pos h, h2, hr]
          · rw [if_neg h, h2, hr]
      by_cases hno : cutF line 32 = true ∧ numB (cutA line 32) = true
      · have er : hRest line = cutB line 32 := if_pos hno
        have hnp : ¬ Lib.containsS placeL (cutA line 32) = true := fun e => num_no_place hno.2 ((Lib.containsS_iff _ _).1 e)
        have e1 : hfNo line = cutA line 32 := if_neg hnp
        have e2 : hfRest line = cutB line 32 := if_neg hnp
        rw [er] at hrest
        refine ⟨hno.1, p, t, p3, t5, ?_⟩
        rw [e1, e2]
        refine key _ _ hrest (.inr ⟨fun e => ?_, hno.2, cut_back hno.1⟩)
        have := hno.2
        rw [e] at this
        exact absurd this (by decide +kernel)
      · have er : hRest line = line := if_neg hno
        rw [er] at hrest
        have hl2 : line = placeS p ++ ⟨#[32]⟩ ++ (set ++ ⟨#[32, 45, 32]⟩ ++ timeS t) := by rw [hrest]; simp only [ByteArray.append_assoc]
        obtain ⟨_, d1, d2, _⟩ := cut_app (a := placeS p) (b := set ++ ⟨#[32, 45, 32]⟩ ++ timeS t) (placeS_no p)
        rw [← hl2] at d1 d2
        have hm : Lib.containsS placeL (cutA line 32) = true := (Lib.containsS_iff _ _).2 (by rw [d2]; exact place_mem p p3)
        have e1 : hfNo line = ⟨#[]⟩ := if_pos hm
        have e2 : hfRest line = line := if_pos hm
        refine ⟨d1, p, t, p3, t5, ?_⟩
        rw [e1, e2]
        exact key _ _ hrest (.inl ⟨rfl, rfl⟩)
/-- Where none of the ways serves, there is no heading. -/
theorem hf_none {line : ByteArray} (h : cutF line 32 = false ∨ ∀ p t : Nat, p ≤ 3 → t ≤ 5 → ¬ hfC line (hfNo line) (hfRest line) p t) : headFrom line = none := by
  cases hh : headFrom line with
  | none => rfl
  | some x =>
    obtain ⟨h1, p, t, hp, ht, h2⟩ := hf_no hh
    rcases h with h | h
    · rw [h1] at h; cases h
    · exact absurd h2 (h p t hp ht)
end Go.Proofs.YtmofncdjhdnoiaaGreatDoor

