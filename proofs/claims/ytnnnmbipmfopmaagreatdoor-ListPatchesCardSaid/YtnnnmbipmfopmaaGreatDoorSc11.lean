/- Texts packed: ChkS, ChkA, ChkB, ChkC, GrS, CsS, CoS, HdS, HeadD, HeadE, ChkR, RdS, RtS, HfS, SegS, SegW, SegX, WpF. -/
import Derived.Test.YtnnnmbipmfopmaaGreatDoorSc10
import Derived.Test.YtnnnmbipmfopmaaGreatDoorSc01
import Derived.RegionTactic
import Derived.Test.YtnnnmbipmfopmaaGreatDoorSc04
import Derived.Test.YtnnnmbipmfopmaaGreatDoorSc02
import Derived.Test.YtnnnmbipmfopmaaGreatDoorSc09
import Derived.Lib.LastIndexLaws
import Derived.Lib.SlicesS
import Derived.RangeFuncNested
import Derived.RangeFuncBound
import Derived.RangeFuncCalls
import Derived.RangeFuncLeaves
import Derived.Shelf.Abstract
import Derived.Shelf.RegionOpen
import Derived.WalkKit
import Derived.OwnWalkIn
import Derived.TacticsInMore
import Derived.LoopNIn
import Derived.LoopIn
import Derived.Deep.DeepCutAuto
/- The errors of scripts in plain words. No program in sight. -/
namespace Go.Proofs.YtnnnmbipmfopmaaGreatDoor
set_option linter.unusedVariables false
open Go.RowKit

def nameB (s : ByteArray) : Bool := proB s 30 ⟨#[39, 46, 45]⟩
def turnC (c : UInt8) : Bool := capB c || decide (c.toNat = 32) || decide (c.toNat = 46)
def turnB (s : ByteArray) : Bool := allB turnC s && decide (s.size ≤ 40)
def brB (s : ByteArray) : Bool := Lib.containsAny s.data.toList (⟨#[40, 41]⟩ : ByteArray).data.toList
/-- The error of a paragraph by itself. -/
def paraE (p : Para) : Int :=
  if p.kind < 1 ∨ 5 < p.kind then 4
  else if p.text.size = 0 ∨ plainB p.text = false then 3
  else if 2000 < p.text.size ∨ (p.kind = 3 ∧ 200 < p.text.size) then 2
  else if p.kind = 2 ∧ nameB p.text = false then 5
  else if p.kind = 3 ∧ brB p.text = true then 3
  else if p.kind = 5 ∧ turnB p.text = false then 3 else 0
/-- Whether a paragraph of a kind may follow one of another kind. -/
def followsB (kind last : Int) : Bool := if kind = 3 then decide (last = 2) || decide (last = 4) else if kind = 4 then decide (last = 2) || decide (last = 3) || decide (last = 4) else !decide (last = 2) && !decide (last = 3)
def parasE : Int → List Para → Int
  | last, [] => if last = 2 ∨ last = 3 then 7 else 0
  | last, p :: r => if ¬ paraE p = 0 then paraE p else if followsB p.kind last = false then 7 else parasE p.kind r
theorem parasE_step (l : List Para) (k : Nat) (last : Int) (hk : k < l.length) : parasE last (l.drop k) = if ¬ paraE l[k] = 0 then paraE l[k] else if followsB l[k].kind last = false then 7 else parasE l[k].kind (l.drop (k + 1)) := by
  rw [List.drop_eq_getElem_cons hk, parasE]
theorem parasE_end (l : List Para) (k : Nat) (last : Int) (hk : ¬ k < l.length) : parasE last (l.drop k) = if last = 2 ∨ last = 3 then 7 else 0 := by
  rw [List.drop_eq_nil_of_le (by omega), parasE]
def sceneE (s : Scene) : Int := if setB s.set = false then 3 else parasE 0 s.paras
/-- The error of the scenes from one on; the numbers of those before it. -/
def scenesE : Nat → List ByteArray → List Scene → Int
  | _, _, [] => 0
  | k, seen, x :: r =>
    if ¬ x.no = ⟨#[]⟩ ∧ numB x.no = false then 5
    else if ¬ x.no = ⟨#[]⟩ ∧ (seen.any fun y => decide (y = x.no)) = true then 6
    else if x.place < 1 ∨ 3 < x.place ∨ x.time < 1 ∨ 5 < x.time then 4
    else if k = 0 ∧ x.time = 5 then 7
    else if ¬ sceneE x = 0 then sceneE x else scenesE (k + 1) (x.no :: seen) r
def parasN (l : List Scene) : Nat := (l.map fun x => x.paras.length).sum
def chkE (x : Script) : Int :=
  if x.title.size < 1 ∨ 60 < x.title.size ∨ plainB x.title = false then 3
  else if 300 < x.scenes.length ∨ 4000 < parasN x.scenes then 2
  else scenesE 0 [] x.scenes
end Go.Proofs.YtnnnmbipmfopmaaGreatDoor

/- The program's tests of paragraphs. -/
namespace Go.Proofs.YtnnnmbipmfopmaaGreatDoor
set_option linter.unusedVariables false
open Go.RowKit

set_option maxHeartbeats 800000 in
theorem isName_c (s : ByteArray) (w : World) (hs : s.size ≤ 4000000000) (hm : MaxLaid w) : Calls Tryz.prog 107 #[.string s] w fun e w' => e = .returned (.bool (nameB s)) ∧ w = w' := by
  have HP := Lib.hid (proper_c s ⟨#[39, 46, 45]⟩ 30 w hs hm (by omega))
  have HR := Lib.hid (show nameB s = proB s 30 ⟨#[39, 46, 45]⟩ from rfl)
  generalize proB s 30 ⟨#[39, 46, 45]⟩ = p1 at *
  clear hm
  go_enter Tryz.func107, Tryz.ntmps107
  go_wp2_with fail
  refine HP.out.mono ?_
  rintro e w' ⟨rfl, rfl⟩
  go_wp2
  go_ret
  exact ⟨ret_bool HR.out.symm, rfl⟩
set_option maxHeartbeats 800000 in
theorem isTurn_c (s : ByteArray) (w : World) (hs : s.size ≤ 4000000000) : Calls Tryz.prog 109 #[.string s] w fun e w' => e = .returned (.bool (turnB s)) ∧ w = w' := by
  go_enter Tryz.func109, Tryz.ntmps109
  go_wp2
  go_loop [6] (fun i => ∃ k : Nat, k ≤ s.size ∧ i = .int .i64 k ∧ Hid (∀ x ∈ s.data.toList.take k, turnC x = true)) (fun i => s.size - (intOf i).toNat)
  case atStart => exact ⟨0, Nat.zero_le _, rfl, by intro x hx; simp at hx⟩
  case round =>
    obtain ⟨k, hk, rfl, HN⟩ := hrel
    by_cases hlt : k < s.size
    · have hu : s[k].toNat < 256 := s[k].toNat_lt
      have HCC := Lib.hid (isCapital_c s[k] w)
      have HNX := Lib.hid (fun (h : turnC s[k] = true) => allB_next hlt HN.out h)
      have HX := Lib.hid (fun (h : turnC s[k] = false) => show turnB s = false by unfold turnB; rw [allB_no hlt h]; rfl)
      cases hc1 : capB s[k] with
      | true =>
        have HK := Lib.hid (HNX.out (by simp [turnC, hc1]))
        go_wp2_with (first | (go_at_call 59; refine HCC.out.mono ?_; rintro e w' ⟨rfl, rfl⟩; rw [hc1]) | fail)
        go_round
        case rel => exact ⟨k + 1, by omega, intNum, HK.out⟩
        case measure => simp [intOf]; omega
      | false =>
      by_cases hc2 : s[k].toNat = 32
      · have HK := Lib.hid (HNX.out (by simp [turnC, hc2]))
        have hc2' : ((s[k].toNat : Int) != 32) = false := by rw [hc2]; rfl
        clear hc2
        go_wp2_with (first | (go_at_call 59; refine HCC.out.mono ?_; rintro e w' ⟨rfl, rfl⟩; rw [hc1]) | fail)
        go_round
        case rel => exact ⟨k + 1, by omega, intNum, HK.out⟩
        case measure => simp [intOf]; omega
      have hc2' : ((s[k].toNat : Int) != 32) = true := bne_iff_ne.2 (by omega)
      by_cases hc3 : s[k].toNat = 46
      · have HK := Lib.hid (HNX.out (by simp [turnC, hc3]))
        have hc3' : ((s[k].toNat : Int) != 46) = false := by rw [hc3]; rfl
        clear hc3 hc2
        go_wp2_with (first | (go_at_call 59; refine HCC.out.mono ?_; rintro e w' ⟨rfl, rfl⟩; rw [hc1]) | fail)
        go_round
        case rel => exact ⟨k + 1, by omega, intNum, HK.out⟩
        case measure => simp [intOf]; omega
      · have HR := Lib.hid (HX.out (by simp [turnC, hc1, hc2, hc3]))
        have hc3' : ((s[k].toNat : Int) != 46) = true := bne_iff_ne.2 (by omega)
        clear hc3 hc2
        go_wp2_with (first | (go_at_call 59; refine HCC.out.mono ?_; rintro e w' ⟨rfl, rfl⟩; rw [hc1]) | fail)
        go_ret
        exact ⟨ret_bool HR.out.symm, rfl⟩
    · have HR := Lib.hid (show turnB s = decide ((s.size : Int) ≤ 40) by unfold turnB; rw [allB_yes hlt HN.out, Bool.true_and, decide_eq_decide]; omega)
      go_wp2
      go_ret
      exact ⟨ret_bool HR.out.symm, rfl⟩
set_option maxHeartbeats 800000 in
theorem follows_c (kind last : Int) (w : World) : Calls Tryz.prog 74 #[.int .i64 kind, .int .i64 last] w fun e w' => e = .returned (.bool (followsB kind last)) ∧ w = w' := by
  by_cases h1 : kind = 3
  · have HR := Lib.hid (show followsB kind last = (decide (last = 2) || decide (last = 4)) from if_pos h1)
    have h1' : (kind == 3) = true := by rw [h1]; rfl
    clear h1
    by_cases h2 : last = 2
    · have h2' : (last == 2) = true := by rw [h2]; rfl
      have HR2 := Lib.hid (show followsB kind last = true by rw [HR.out, decide_eq_true h2]; rfl)
      clear h2
      go_enter Tryz.func74, Tryz.ntmps74
      go_wp2
      go_ret
      exact ⟨ret_bool HR2.out.symm, rfl⟩
    · have h2' : (last == 2) = false := beq_eq_false_iff_ne.2 h2
      have HR2 := Lib.hid (show followsB kind last = (last == 4) by rw [HR.out, decide_eq_false h2]; rfl)
      clear h2
      go_enter Tryz.func74, Tryz.ntmps74
      go_wp2
      go_ret
      exact ⟨ret_bool HR2.out.symm, rfl⟩
  have h1' : (kind == 3) = false := beq_eq_false_iff_ne.2 h1
  by_cases h4 : kind = 4
  · have HR := Lib.hid (show followsB kind last = (decide (last = 2) || decide (last = 3) || decide (last = 4)) by rw [followsB, if_neg h1, if_pos h4])
    have h4' : (kind == 4) = true := by rw [h4]; rfl
    clear h1 h4
    by_cases h2 : last = 2
    · have h2' : (last == 2) = true := by rw [h2]; rfl
      have HR2 := Lib.hid (show followsB kind last = true by rw [HR.out, decide_eq_true h2]; rfl)
      clear h2
      go_enter Tryz.func74, Tryz.ntmps74
      go_wp2
      go_ret
      exact ⟨ret_bool HR2.out.symm, rfl⟩
    have h2' : (last == 2) = false := beq_eq_false_iff_ne.2 h2
    by_cases h3 : last = 3
    · have h3' : (last == 3) = true := by rw [h3]; rfl
      have HR2 := Lib.hid (show followsB kind last = true by rw [HR.out, decide_eq_true h3]; simp)
      clear h2 h3
      go_enter Tryz.func74, Tryz.ntmps74
      go_wp2
      go_ret
      exact ⟨ret_bool HR2.out.symm, rfl⟩
    · have h3' : (last == 3) = false := beq_eq_false_iff_ne.2 h3
      have HR2 := Lib.hid (show followsB kind last = (last == 4) by rw [HR.out, decide_eq_false h2, decide_eq_false h3]; rfl)
      clear h2 h3
      go_enter Tryz.func74, Tryz.ntmps74
      go_wp2
      go_ret
      exact ⟨ret_bool HR2.out.symm, rfl⟩
  · have HR := Lib.hid (show followsB kind last = (!decide (last = 2) && !decide (last = 3)) by rw [followsB, if_neg h1, if_neg h4])
    have h4' : (kind == 4) = false := beq_eq_false_iff_ne.2 h4
    clear h1 h4
    by_cases h2 : last = 2
    · have h2' : (last != 2) = false := by rw [h2]; rfl
      have HR2 := Lib.hid (show followsB kind last = false by rw [HR.out, decide_eq_true h2]; rfl)
      clear h2
      go_enter Tryz.func74, Tryz.ntmps74
      go_wp2
      go_ret
      exact ⟨ret_bool HR2.out.symm, rfl⟩
    · have h2' : (last != 2) = true := bne_iff_ne.2 h2
      have HR2 := Lib.hid (show followsB kind last = (last != 3) by rw [HR.out, decide_eq_false h2]; rfl)
      clear h2
      go_enter Tryz.func74, Tryz.ntmps74
      go_wp2
      go_ret
      exact ⟨ret_bool HR2.out.symm, rfl⟩
end Go.Proofs.YtnnnmbipmfopmaaGreatDoor

/- The program's errors of paragraphs and of scenes. -/
namespace Go.Proofs.YtnnnmbipmfopmaaGreatDoor
set_option linter.unusedVariables false
open Go.RowKit

theorem max_alloc {w : World} (h : MaxLaid w) (o : Obj) : MaxLaid (w.alloc o) := max_below h ((Below.refl w.heap.size w).alloc (Nat.le_refl _) o) (Nat.le_refl _)
theorem plain_ascii {s : ByteArray} (h : plainB s = true) : ∀ (j : Nat) (b : UInt8), s.data.toList[j]? = some b → b.toNat < 128 := by
  intro j b hj
  unfold plainB allB at h
  rw [Bool.and_eq_true, List.all_eq_true] at h
  have h2 := h.1 b (List.mem_of_getElem? hj)
  simp [prB] at h2
  omega
def PfP (p : Para) (w : World) (e : Ending) (w' : World) : Prop := e = .returned (.int .i64 (paraE p)) ∧ Below w.heap.size w w'
theorem PfP.mk {p : Para} {q : Int} {w w' : World} (h : paraE p = q) (hb : Below w.heap.size w w') : PfP p w (.returned (.int .i64 q)) w' := ⟨by rw [h], hb⟩
set_option maxRecDepth 100000 in
set_option maxHeartbeats 4000000 in
theorem paraFault_c (p : Para) (w : World) (hs : p.text.size ≤ 4000000000) (hm : MaxLaid w) : Calls Tryz.prog 73 #[.agg #[.int .i64 p.kind, .string p.text]] w (PfP p w) := by
  obtain ⟨kind, s⟩ := p
  dsimp only at hs ⊢
  have HM := Lib.hid (max_alloc hm (.cells #[.int .i64 kind, .string s] 123))
  have HB := Lib.hid ((Below.refl w.heap.size w).alloc (Nat.le_refl _) (.cells #[.int .i64 kind, .string s] 123))
  have HPL := Lib.hid (Plain_c s (w.alloc (.cells #[.int .i64 kind, .string s] 123)) hs HM.out)
  have HNA := Lib.hid (isName_c s (w.alloc (.cells #[.int .i64 kind, .string s] 123)) hs HM.out)
  have HTU := Lib.hid (isTurn_c s (w.alloc (.cells #[.int .i64 kind, .string s] 123)) hs)
  clear hm
  by_cases k1 : kind < 1
  · have HR := Lib.hid (show paraE ⟨kind, s⟩ = 4 from if_pos (.inl k1))
    go_enter Tryz.func73, Tryz.ntmps73
    go_wp2
    go_ret
    exact PfP.mk HR.out HB.out
  by_cases k2 : 5 < kind
  · have HR := Lib.hid (show paraE ⟨kind, s⟩ = 4 from if_pos (.inr k2))
    have k1' : 1 ≤ kind := by omega
    clear k1
    go_enter Tryz.func73, Tryz.ntmps73
    go_wp2
    go_ret
    exact PfP.mk HR.out HB.out
  have HR1 := Lib.hid (show paraE ⟨kind, s⟩ = if s.size = 0 ∨ plainB s = false then 3 else if 2000 < s.size ∨ (kind = 3 ∧ 200 < s.size) then 2 else if kind = 2 ∧ nameB s = false then 5 else if kind = 3 ∧ brB s = true then 3 else if kind = 5 ∧ turnB s = false then 3 else 0 from if_neg (by dsimp only; omega))
  have k1' : 1 ≤ kind := by omega
  have k2' : kind ≤ 5 := by omega
  clear k1 k2
  cases he : s.toList.isEmpty with
  | true =>
    have HR := Lib.hid (HR1.out.trans (if_pos (.inl (by rw [isEmpty_size] at he; simpa using he))))
    go_enter Tryz.func73, Tryz.ntmps73
    go_wp2
    go_ret
    exact PfP.mk HR.out HB.out
  | false =>
  have hse : ¬ s.size = 0 := by rw [isEmpty_size] at he; simpa using he
  cases hpl : plainB s with
  | false =>
    have HR := Lib.hid (HR1.out.trans (if_pos (.inr hpl)))
    clear hse
    go_enter Tryz.func73, Tryz.ntmps73
    go_wp2_with (first | (go_at_call 49; refine HPL.out.mono ?_; rintro e w' ⟨rfl, rfl⟩; rw [hpl]) | fail)
    go_ret
    exact PfP.mk HR.out HB.out
  | true =>
  have HR2 := Lib.hid (HR1.out.trans (if_neg (by rintro (h | h); exact hse h; rw [hpl] at h; cases h)))
  have HCA := Lib.hid (Tryz.strings_ContainsAny_laid s ⟨#[40, 41]⟩ (w.alloc (.cells #[.int .i64 kind, .string s] 123)) (by omega) (by decide) (plain_ascii hpl) (by
    intro j b hj
    have h : ((⟨#[40, 41]⟩ : ByteArray).data.toList.all fun b => decide (b.toNat < 128)) = true := by decide
    rw [List.all_eq_true] at h
    simpa using h b (List.mem_of_getElem? hj)))
  clear hse HR1
  by_cases k3 : 2000 < s.size
  · have HR := Lib.hid (HR2.out.trans (if_pos (.inl k3)))
    have k3' : (2000 : Int) < s.size := by omega
    go_enter Tryz.func73, Tryz.ntmps73
    go_wp2_with (first | (go_at_call 49; refine HPL.out.mono ?_; rintro e w' ⟨rfl, rfl⟩; rw [hpl]) | fail)
    go_ret
    exact PfP.mk HR.out HB.out
  have k3' : (s.size : Int) ≤ 2000 := by omega
  rcases (show kind = 1 ∨ kind = 2 ∨ kind = 3 ∨ kind = 4 ∨ kind = 5 by omega) with rfl | rfl | rfl | rfl | rfl
  · have HR := Lib.hid (show paraE ⟨1, s⟩ = 0 by rw [HR2.out, if_neg (by omega), if_neg (by rintro ⟨h, _⟩; exact absurd h (by decide)), if_neg (by rintro ⟨h, _⟩; exact absurd h (by decide)), if_neg (by rintro ⟨h, _⟩; exact absurd h (by decide))])
    go_enter Tryz.func73, Tryz.ntmps73
    go_wp2_with (first | (go_at_call 49; refine HPL.out.mono ?_; rintro e w' ⟨rfl, rfl⟩; rw [hpl]) | fail)
    go_ret
    exact PfP.mk HR.out HB.out
  · cases hna : nameB s with
    | false =>
      have HR := Lib.hid (show paraE ⟨2, s⟩ = 5 by rw [HR2.out, if_neg (by omega), if_pos ⟨rfl, hna⟩])
      go_enter Tryz.func73, Tryz.ntmps73
      go_wp2_with (first | (go_at_call 49; refine HPL.out.mono ?_; rintro e w' ⟨rfl, rfl⟩; rw [hpl]) | (go_at_call 107; refine HNA.out.mono ?_; rintro e w' ⟨rfl, rfl⟩; rw [hna]) | fail)
      go_ret
      exact PfP.mk HR.out HB.out
    | true =>
      have HR := Lib.hid (show paraE ⟨2, s⟩ = 0 by rw [HR2.out, if_neg (by omega), if_neg (by rintro ⟨_, h⟩; rw [hna] at h; cases h), if_neg (by rintro ⟨h, _⟩; exact absurd h (by decide)), if_neg (by rintro ⟨h, _⟩; exact absurd h (by decide))])
      go_enter Tryz.func73, Tryz.ntmps73
      go_wp2_with (first | (go_at_call 49; refine HPL.out.mono ?_; rintro e w' ⟨rfl, rfl⟩; rw [hpl]) | (go_at_call 107; refine HNA.out.mono ?_; rintro e w' ⟨rfl, rfl⟩; rw [hna]) | fail)
      go_ret
      exact PfP.mk HR.out HB.out
  · by_cases k4 : 200 < s.size
    · have HR := Lib.hid (show paraE ⟨3, s⟩ = 2 by rw [HR2.out, if_pos (.inr ⟨rfl, k4⟩)])
      have k4' : (200 : Int) < s.size := by omega
      go_enter Tryz.func73, Tryz.ntmps73
      go_wp2_with (first | (go_at_call 49; refine HPL.out.mono ?_; rintro e w' ⟨rfl, rfl⟩; rw [hpl]) | fail)
      go_ret
      exact PfP.mk HR.out HB.out
    · have HR := Lib.hid (show paraE ⟨3, s⟩ = if brB s = true then 3 else 0 by
        rw [HR2.out, if_neg (by omega), if_neg (by rintro ⟨h, _⟩; exact absurd h (by decide))]
        cases hbr : brB s with
        | true => rw [if_pos ⟨rfl, rfl⟩, if_pos rfl]
        | false => rw [if_neg (by rintro ⟨_, h⟩; cases h), if_neg (by rintro ⟨h, _⟩; exact absurd h (by decide)), if_neg (by decide)])
      have k4' : (s.size : Int) ≤ 200 := by omega
      have HBR := Lib.hid (show brB s = Lib.containsAny s.data.toList (⟨#[40, 41]⟩ : ByteArray).data.toList from rfl)
      generalize brB s = bb at *
      rw [← HBR.out] at HCA
      clear k4
      go_enter Tryz.func73, Tryz.ntmps73
      go_wp2_with (first | (go_at_call 49; refine HPL.out.mono ?_; rintro e w' ⟨rfl, rfl⟩; rw [hpl]) | fail)
      refine HCA.out.mono ?_
      rintro e w2 ⟨rfl, hb2⟩
      have HB2 := Lib.hid (HB.out.trans (hb2.mono (by simp)))
      have c0 : w2.cell? ⟨w.heap.size, 0, none⟩ = some (.int .i64 3) := (hb2.cell (p := ⟨w.heap.size, 0, none⟩) (by simp)).trans ((str_cells (heap_alloc_new w _)).1 0)
      have c1 : w2.cell? ⟨w.heap.size, 1, none⟩ = some (.string s) := (hb2.cell (p := ⟨w.heap.size, 1, none⟩) (by simp)).trans ((str_cells (heap_alloc_new w _)).1 1)
      clear hb2
      cases bb with
      | true =>
        go_wp2
        go_ret
        exact PfP.mk HR.out HB2.out
      | false =>
        go_wp2
        go_ret
        exact PfP.mk HR.out HB2.out
  · have HR := Lib.hid (show paraE ⟨4, s⟩ = 0 by rw [HR2.out, if_neg (by omega), if_neg (by rintro ⟨h, _⟩; exact absurd h (by decide)), if_neg (by rintro ⟨h, _⟩; exact absurd h (by decide)), if_neg (by rintro ⟨h, _⟩; exact absurd h (by decide))])
    go_enter Tryz.func73, Tryz.ntmps73
    go_wp2_with (first | (go_at_call 49; refine HPL.out.mono ?_; rintro e w' ⟨rfl, rfl⟩; rw [hpl]) | fail)
    go_ret
    exact PfP.mk HR.out HB.out
  · cases htu : turnB s with
    | false =>
      have HR := Lib.hid (show paraE ⟨5, s⟩ = 3 by rw [HR2.out, if_neg (by omega), if_neg (by rintro ⟨h, _⟩; exact absurd h (by decide)), if_neg (by rintro ⟨h, _⟩; exact absurd h (by decide)), if_pos ⟨rfl, htu⟩])
      go_enter Tryz.func73, Tryz.ntmps73
      go_wp2_with (first | (go_at_call 49; refine HPL.out.mono ?_; rintro e w' ⟨rfl, rfl⟩; rw [hpl]) | (go_at_call 109; refine HTU.out.mono ?_; rintro e w' ⟨rfl, rfl⟩; rw [htu]) | fail)
      go_ret
      exact PfP.mk HR.out HB.out
    | true =>
      have HR := Lib.hid (show paraE ⟨5, s⟩ = 0 by rw [HR2.out, if_neg (by omega), if_neg (by rintro ⟨h, _⟩; exact absurd h (by decide)), if_neg (by rintro ⟨h, _⟩; exact absurd h (by decide)), if_neg (by rintro ⟨_, h⟩; rw [htu] at h; cases h)])
      go_enter Tryz.func73, Tryz.ntmps73
      go_wp2_with (first | (go_at_call 49; refine HPL.out.mono ?_; rintro e w' ⟨rfl, rfl⟩; rw [hpl]) | (go_at_call 109; refine HTU.out.mono ?_; rintro e w' ⟨rfl, rfl⟩; rw [htu]) | fail)
      go_ret
      exact PfP.mk HR.out HB.out
end Go.Proofs.YtnnnmbipmfopmaaGreatDoor

/- The program's error of a scene. -/
namespace Go.Proofs.YtnnnmbipmfopmaaGreatDoor
set_option linter.unusedVariables false
open Go.RowKit

def ScP (x : Scene) (w : World) (e : Ending) (w' : World) : Prop := e = .returned (.int .i64 (sceneE x)) ∧ Below w.heap.size w w'
theorem ScP.mk {x : Scene} {q : Int} {w w' : World} (h : sceneE x = q) (hb : Below w.heap.size w w') : ScP x w (.returned (.int .i64 q)) w' := ⟨by rw [h], hb⟩
set_option maxRecDepth 100000 in
set_option maxHeartbeats 4000000 in
theorem sceneFault_c {F : Nat → Prop} (x : Scene) (v : Value) (w : World) (hv : Sli paraR w F x.paras v) (hF : ∀ b, F b → b < w.heap.size) (hs : x.set.size ≤ 4000000000) (ht : ∀ p ∈ x.paras, p.text.size ≤ 4000000000) (hl : x.paras.length ≤ 1000000) (hm : MaxLaid w) :
    Calls Tryz.prog 50 #[.agg #[.string x.no, .int .i64 x.place, .string x.set, .int .i64 x.time, v]] w (ScP x w) := by
  obtain ⟨A, c, rfl, hlc, hcm⟩ := hv.form
  obtain ⟨L, hL⟩ : ∃ L, x.paras.length = L := ⟨_, rfl⟩
  have HL := Lib.hid hL
  rw [hL] at hv hlc hl ⊢
  have HM0 := Lib.hid hm
  have HM := Lib.hid (max_alloc hm (.cells #[.string x.no, .int .i64 x.place, .string x.set, .int .i64 x.time, .slice A L c] 64))
  have HB := Lib.hid ((Below.refl w.heap.size w).alloc (Nat.le_refl _) (.cells #[.string x.no, .int .i64 x.place, .string x.set, .int .i64 x.time, .slice A L c] 64))
  have HS := Lib.hid (isSet_c x.set (w.alloc (.cells #[.string x.no, .int .i64 x.place, .string x.set, .int .i64 x.time, .slice A L c] 64)) hs HM.out)
  have HV := Lib.hid hv
  have HF := Lib.hid hF
  have HT := Lib.hid ht
  clear hL hm hv hF ht
  cases hse : setB x.set with
  | false =>
    have HR := Lib.hid (show sceneE x = 3 from if_pos hse)
    go_enter Tryz.func50, Tryz.ntmps50
    go_wp2_with (first | (go_at_call 72; refine HS.out.mono ?_; rintro e w' ⟨rfl, rfl⟩; rw [hse]) | fail)
    go_ret
    exact ScP.mk HR.out HB.out
  | true =>
  have HR := Lib.hid (show sceneE x = parasE 0 x.paras from if_neg (by rw [hse]; decide))
  go_enter Tryz.func50, Tryz.ntmps50
  go_wp2_with (first | (go_at_call 72; refine HS.out.mono ?_; rintro e w' ⟨rfl, rfl⟩; rw [hse]) | fail)
  clear hse HS
  go_loopw [3, 14] (fun la i wr => ∃ (k : Nat) (q : Int), k ≤ L ∧ i = .int .i64 k ∧ la = .int .i64 q ∧ Hid (sceneE x = parasE q (x.paras.drop k)) ∧ Hid (Below w.heap.size w wr) ∧ w.heap.size ≤ wr.heap.size) (fun _ i _ => L - (intOf i).toNat)
  case atStart => exact ⟨0, 0, Nat.zero_le _, rfl, rfl, HR.out, HB.out, by simp⟩
  case round =>
    clear HB HM HR
    obtain ⟨k, q, hk, rfl, rfl, HE, HB, hzw⟩ := hrel
    by_cases hlt : k < L
    · have hk2 : k < x.paras.length := by rw [HL.out]; exact hlt
      obtain ⟨b, off, rfl, hfb, c0, c1⟩ := para_at (HV.out.below HB.out HF.out) k hk2
      have hst := HE.out.trans (parasE_step x.paras k q hk2)
      have htx := HT.out _ (List.getElem_mem hk2)
      have hbw : b < wr.heap.size := by have := HF.out b hfb; omega
      generalize x.paras[k]'hk2 = p at *
      have HST := Lib.hid hst
      have HB1 := Lib.hid (HB.out.alloc hzw (.cells #[.int .i64 p.kind, .string p.text] 123))
      have HPF := Lib.hid (paraFault_c p (wr.alloc (.cells #[.int .i64 p.kind, .string p.text] 123)) htx (max_below HM0.out HB1.out (Nat.le_refl _)))
      clear hst hk2 HE
      go_wp2_with fail
      refine HPF.out.mono ?_
      rintro e w2 ⟨rfl, hb2⟩
      have hz2 := hb2.size
      simp at hz2
      have HB2 := Lib.hid (HB1.out.trans (hb2.mono (by simp; omega)))
      have d0 : w2.cell? ⟨wr.heap.size, 0, none⟩ = some (.int .i64 p.kind) := (hb2.cell (p := ⟨wr.heap.size, 0, none⟩) (by simp)).trans ((str_cells (heap_alloc_new wr _)).1 0)
      have hw2 : wr.heap.size < w2.heap.size := by omega
      have HFO := Lib.hid (follows_c p.kind q w2)
      clear hb2 HPF c0 c1
      by_cases hp0 : paraE p = 0
      · rw [hp0]
        cases hfo : followsB p.kind q with
        | false =>
          have HR := Lib.hid (HST.out.trans (by rw [if_neg (by rw [hp0]; simp), if_pos hfo]))
          clear hp0 HST
          go_wp2_with (first | (go_at_call 74; refine HFO.out.mono ?_; rintro e w' ⟨rfl, rfl⟩; rw [hfo]) | fail)
          go_ret
          exact ScP.mk HR.out HB2.out
        | true =>
          have HR := Lib.hid (HST.out.trans (by rw [if_neg (by rw [hp0]; simp), if_neg (by rw [hfo]; decide)]))
          clear hp0 HST
          go_wp2_with (first | (go_at_call 74; refine HFO.out.mono ?_; rintro e w' ⟨rfl, rfl⟩; rw [hfo]) | fail)
          go_roundw
          case rel => exact ⟨k + 1, p.kind, by omega, intNum, rfl, HR.out, HB2.out, by omega⟩
          case measure => simp [intOf]; omega
      · have HR := Lib.hid (HST.out.trans (if_pos hp0))
        have hne : (paraE p != 0) = true := by rw [bne_iff_ne]; exact hp0
        generalize paraE p = pe at *
        clear hp0 HST
        go_wp2
        go_ret
        exact ScP.mk HR.out HB2.out
    · have hend := HE.out.trans (parasE_end x.paras k q (by rw [HL.out]; exact hlt))
      by_cases h2 : q = 2
      · have HR := Lib.hid (hend.trans (if_pos (.inl h2)))
        have h2' : (q == 2) = true := by rw [h2]; rfl
        clear hend h2
        go_wp2
        go_ret
        exact ScP.mk HR.out HB.out
      have h2' : (q == 2) = false := beq_eq_false_iff_ne.2 h2
      by_cases h3 : q = 3
      · have HR := Lib.hid (hend.trans (if_pos (.inr h3)))
        have h3' : (q == 3) = true := by rw [h3]; rfl
        clear hend h2 h3
        go_wp2
        go_ret
        exact ScP.mk HR.out HB.out
      · have HR := Lib.hid (hend.trans (if_neg (by rintro (h | h); exact h2 h; exact h3 h)))
        have h3' : (q == 3) = false := beq_eq_false_iff_ne.2 h3
        clear hend h2 h3
        go_wp2
        go_ret
        exact ScP.mk HR.out HB.out
end Go.Proofs.YtnnnmbipmfopmaaGreatDoor

/- The groups of a scene's paragraphs, in plain words. No program in sight. -/
namespace Go.Proofs.YtnnnmbipmfopmaaGreatDoor
set_option linter.unusedVariables false
open Go.RowKit

end Go.Proofs.YtnnnmbipmfopmaaGreatDoor

/- Who speaks in a script, in plain words. No program in sight. -/
namespace Go.Proofs.YtnnnmbipmfopmaaGreatDoor
set_option linter.unusedVariables false
open Go.RowKit

theorem getLast {α : Type} (l : List α) (x : α) (h : l.length < (l ++ [x]).length) : (l ++ [x])[l.length] = x := by
  rw [List.getElem_append_right (Nat.le_refl _)]
  simp
end Go.Proofs.YtnnnmbipmfopmaaGreatDoor

/- Who speaks in a script, group by group, in plain words. No program in sight. -/
namespace Go.Proofs.YtnnnmbipmfopmaaGreatDoor
set_option linter.unusedVariables false
open Go.RowKit

section
variable {α β : Type} {n m : Nat} {enc : α → List Value} {hn : ∀ x, (enc x).length = n} {enc2 : β → List Value} {hm : ∀ x, (enc2 x).length = m} {e e2 : TypeId} {w wx wy : World} {l : List α} {l2 : List β} {v v2 : Value} {P : List Pb}
end
end Go.Proofs.YtnnnmbipmfopmaaGreatDoor

/- Headings of scenes and the text of a script, in plain words. No program in sight. -/
namespace Go.Proofs.YtnnnmbipmfopmaaGreatDoor
set_option linter.unusedVariables false
open Go.RowKit

def placeL : List ByteArray := [⟨#[]⟩, ⟨#[73, 78, 84, 46]⟩, ⟨#[69, 88, 84, 46]⟩, ⟨#[73, 78, 84, 46, 47, 69, 88, 84, 46]⟩]
def timeL : List ByteArray := [⟨#[]⟩, ⟨#[68, 65, 89]⟩, ⟨#[78, 73, 71, 72, 84]⟩, ⟨#[68, 65, 87, 78]⟩, ⟨#[68, 85, 83, 75]⟩, ⟨#[76, 65, 84, 69, 82]⟩]
def placeS (q : Nat) : ByteArray := placeL.getD q ⟨#[]⟩
def timeS (q : Nat) : ByteArray := timeL.getD q ⟨#[]⟩
theorem placeS_sz : ∀ q, (placeS q).size ≤ 9
  | 0 => by decide
  | 1 => by decide
  | 2 => by decide
  | 3 => by decide
  | q + 4 => by show (⟨#[]⟩ : ByteArray).size ≤ 9; decide
theorem timeS_sz : ∀ q, (timeS q).size ≤ 9
  | 0 => by decide
  | 1 => by decide
  | 2 => by decide
  | 3 => by decide
  | 4 => by decide
  | 5 => by decide
  | q + 6 => by show (⟨#[]⟩ : ByteArray).size ≤ 9; decide
/-- The heading of a scene. -/
def headS (x : Scene) : ByteArray := if x.no = ⟨#[]⟩ then placeS x.place.toNat ++ ⟨#[32]⟩ ++ x.set ++ ⟨#[32, 45, 32]⟩ ++ timeS x.time.toNat else x.no ++ ⟨#[32]⟩ ++ (placeS x.place.toNat ++ ⟨#[32]⟩ ++ x.set ++ ⟨#[32, 45, 32]⟩ ++ timeS x.time.toNat)
theorem headS_sz (x : Scene) : (headS x).size ≤ x.no.size + x.set.size + 23 := by
  have h1 := placeS_sz x.place.toNat
  have h2 := timeS_sz x.time.toNat
  have z1 : (⟨#[32]⟩ : ByteArray).size = 1 := rfl
  have z2 : (⟨#[32, 45, 32]⟩ : ByteArray).size = 3 := rfl
  unfold headS
  split <;> simp only [ByteArray.size_append, z1, z2] <;> omega
def hRest (line : ByteArray) : ByteArray := if cutF line 32 = true ∧ numB (cutA line 32) = true then cutB line 32 else line
def hR2 (line : ByteArray) : ByteArray := cutB (hRest line) 32
def hK (r : ByteArray) : Int := Lib.lastIndex r.data.toList (⟨#[32, 45, 32]⟩ : ByteArray).data.toList
end Go.Proofs.YtnnnmbipmfopmaaGreatDoor

/- The reference's sets of scenes and the error of a heading. -/
namespace Go.Proofs.YtnnnmbipmfopmaaGreatDoor
set_option linter.unusedVariables false
open Go.RowKit

end Go.Proofs.YtnnnmbipmfopmaaGreatDoor

/- The reference's error of a heading. -/
namespace Go.Proofs.YtnnnmbipmfopmaaGreatDoor
set_option linter.unusedVariables false
open Go.RowKit

end Go.Proofs.YtnnnmbipmfopmaaGreatDoor

/- The reference's error of a script in plain words, and that it is the program's. No program in sight. -/
namespace Go.Proofs.YtnnnmbipmfopmaaGreatDoor
set_option linter.unusedVariables false
open Go.RowKit

end Go.Proofs.YtnnnmbipmfopmaaGreatDoor

/- What the reader of scripts keeps, and what a right script stays within. No program in sight. -/
namespace Go.Proofs.YtnnnmbipmfopmaaGreatDoor
set_option linter.unusedVariables false
open Go.RowKit

theorem mem_mod {α : Type} {l : List α} {f : α → α} {k : Nat} {y : α} (h : y ∈ l.modify k f) : y ∈ l ∨ ∃ x ∈ l, y = f x := by
  obtain ⟨i, hi⟩ := List.mem_iff_getElem?.1 h
  rw [List.getElem?_modify] at hi
  cases hli : l[i]? with
  | none => rw [hli] at hi; simp at hi
  | some x =>
    rw [hli] at hi
    have hm : x ∈ l := List.mem_iff_getElem?.2 ⟨i, hli⟩
    simp at hi
    by_cases e : k = i
    · rw [if_pos e] at hi; exact .inr ⟨x, hm, hi.symm⟩
    · rw [if_neg e] at hi; exact .inl (hi ▸ hm)
/-- A right scene. -/
def okS (x : Scene) : Prop := (x.no = ⟨#[]⟩ ∨ numB x.no = true) ∧ (1 ≤ x.place ∧ x.place ≤ 3) ∧ (1 ≤ x.time ∧ x.time ≤ 5) ∧ setB x.set = true ∧ parasE 0 x.paras = 0
theorem parasE_ok : ∀ (l : List Para) (last : Int), parasE last l = 0 → ∀ p ∈ l, paraE p = 0
  | [], _, _, p, hp => by cases hp
  | q :: r, last, h, p, hp => by
    rw [parasE] at h
    by_cases h1 : paraE q = 0
    · rw [if_neg (by rw [h1]; decide)] at h
      split at h
      · omega
      · rcases List.mem_cons.1 hp with rfl | hp
        · exact h1
        · exact parasE_ok r _ h p hp
    · rw [if_pos h1] at h; exact absurd h h1
theorem scenesE_ok : ∀ (l : List Scene) (k : Nat) (seen : List ByteArray), scenesE k seen l = 0 → ∀ x ∈ l, okS x
  | [], _, _, _, x, hx => by cases hx
  | y :: r, k, seen, h, x, hx => by
    rw [scenesE] at h
    split at h
    · omega
    · rename_i c1
      split at h
      · omega
      · split at h
        · omega
        · rename_i c3
          split at h
          · omega
          · by_cases h0 : sceneE y = 0
            · rw [if_neg (by rw [h0]; decide)] at h
              rcases List.mem_cons.1 hx with rfl | hx
              · unfold sceneE at h0
                split at h0
                · omega
                · rename_i c5
                  refine ⟨?_, by omega, by omega, by simpa using c5, h0⟩
                  by_cases hn : x.no = ⟨#[]⟩
                  · exact .inl hn
                  · refine .inr ?_
                    cases hb : numB x.no with
                    | true => rfl
                    | false => exact absurd ⟨hn, hb⟩ c1
              · exact scenesE_ok r _ _ h x hx
            · rw [if_pos h0] at h; exact absurd h h0
theorem paraE_sz {p : Para} (h : paraE p = 0) : 0 < p.text.size ∧ p.text.size ≤ 2000 ∧ plainB p.text = true ∧ 1 ≤ p.kind ∧ p.kind ≤ 5 := by
  unfold paraE at h
  split at h
  · omega
  · split at h
    · omega
    · rename_i c2
      split at h
      · omega
      · refine ⟨by omega, by omega, ?_, by omega, by omega⟩
        cases hb : plainB p.text with
        | true => rfl
        | false => exact absurd (.inr hb) c2
theorem setB_sz {s : ByteArray} (h : setB s = true) : 1 ≤ s.size ∧ s.size ≤ 60 := by
  unfold setB proB at h
  simp only [Bool.and_eq_true, decide_eq_true_eq] at h
  exact ⟨h.1.1.1.1.1.1, h.1.1.1.1.1.2⟩
structure OkX (x : Script) : Prop where
  t1 : 1 ≤ x.title.size
  t2 : x.title.size ≤ 60
  tp : plainB x.title = true
  sn : x.scenes.length ≤ 300
  pn : parasN x.scenes ≤ 4000
  sc : ∀ y ∈ x.scenes, okS y
theorem chkE_ok {x : Script} (h : chkE x = 0) : OkX x := by
  unfold chkE at h
  split at h
  · omega
  · rename_i c1
    split at h
    · omega
    · refine ⟨by omega, by omega, ?_, by omega, by omega, scenesE_ok _ _ _ h⟩
      cases hb : plainB x.title with
      | true => rfl
      | false => exact absurd (.inr (.inr hb)) c1
end Go.Proofs.YtnnnmbipmfopmaaGreatDoor

/- A heading is read back as it was written. No program in sight. -/
namespace Go.Proofs.YtnnnmbipmfopmaaGreatDoor
set_option linter.unusedVariables false
open Go.RowKit

end Go.Proofs.YtnnnmbipmfopmaaGreatDoor

/- A heading read by trying each way to divide the line. No program in sight. -/
namespace Go.Proofs.YtnnnmbipmfopmaaGreatDoor
set_option linter.unusedVariables false
open Go.RowKit

theorem cut_back {s : ByteArray} {c : UInt8} (h : cutF s c = true) : s = cutA s c ++ ⟨#[c]⟩ ++ cutB s c := by
  unfold cutF at h
  have hlt : cutI s c < s.size := of_decide_eq_true h
  have hl : cutI s c < s.data.toList.length := by simpa using hlt
  have hc : s.data.toList[cutI s c] = c := by have := List.findIdx_getElem (p := (· == c)) (w := hl); exact eq_of_beq this
  apply ba_ext
  unfold cutA cutB
  simp only [ByteArray.data_append, Array.toList_append, extract_list', Nat.sub_zero, List.drop_zero]
  rw [List.take_of_length_le (l := s.data.toList.drop _) (by rw [List.length_drop]; simp)]
  have h2 := List.drop_eq_getElem_cons hl
  rw [hc] at h2
  rw [List.append_assoc, show (⟨#[c]⟩ : ByteArray).data.toList ++ s.data.toList.drop (cutI s c + 1) = s.data.toList.drop (cutI s c) from h2.symm, List.take_append_drop]
end Go.Proofs.YtnnnmbipmfopmaaGreatDoor

/- The parts of a text between the places of one byte: what strings.SplitSeq hands out. No program in sight. -/
namespace Go.Proofs.YtnnnmbipmfopmaaGreatDoor
set_option linter.unusedVariables false
open Go.RowKit

def segsT (c : UInt8) : List UInt8 → List UInt8 → List (List UInt8)
  | [], cur => [cur]
  | b :: l, cur => if b = c then cur :: segsT c l [] else segsT c l (cur ++ [b])
theorem segsT_next {c : UInt8} (b : List UInt8) : ∀ (a cur : List UInt8), (∀ x ∈ a, x ≠ c) → segsT c (a ++ c :: b) cur = (cur ++ a) :: segsT c b []
  | [], cur, _ => by simp [segsT]
  | x :: a, cur, h => by
    have hx : ¬ x = c := h x (by simp)
    rw [List.cons_append, segsT, if_neg hx, segsT_next b a _ (fun y hy => h y (by simp [hy]))]
    simp
theorem segsT_last {c : UInt8} : ∀ (a cur : List UInt8), (∀ x ∈ a, x ≠ c) → segsT c a cur = [cur ++ a]
  | [], cur, _ => by simp [segsT]
  | x :: a, cur, h => by
    have hx : ¬ x = c := h x (by simp)
    rw [segsT, if_neg hx, segsT_last a _ (fun y hy => h y (by simp [hy]))]
    simp
theorem wordsA_segsT : ∀ (l cur : List UInt8), wordsA l cur = (segsT 32 l cur).filter (fun w => decide (w ≠ []))
  | [], cur => by
    by_cases h : cur = [] <;> simp [wordsA, segsT, h]
  | x :: l, cur => by
    rw [wordsA, segsT]
    by_cases hx : x = 32
    · rw [if_pos hx, if_pos hx, wordsA_segsT l []]
      by_cases h : cur = []
      · rw [if_pos h]; simp [h]
      · rw [if_neg h]; simp [h]
    · rw [if_neg hx, if_neg hx, wordsA_segsT l _]
/-- The text's parts. -/
def cutsB (s : ByteArray) (c : UInt8) : List ByteArray := (segsT c s.data.toList []).map fun l => ⟨l.toArray⟩
theorem cutI_free {s : ByteArray} {c : UInt8} (h : ¬ cutI s c < s.size) : ∀ x ∈ s.data.toList, x ≠ c := by
  intro x hx e
  subst e
  have h4 : cutI s x < s.data.toList.length := List.findIdx_lt_length_of_exists ⟨x, hx, by simp⟩
  exact h (by simpa using h4)
theorem cutA_free (s : ByteArray) (c : UInt8) : ∀ x ∈ (cutA s c).data.toList, x ≠ c := by
  intro x hx e
  subst e
  unfold cutA at hx
  rw [extract_list', List.drop_zero, Nat.sub_zero] at hx
  obtain ⟨i, hi, he⟩ := List.mem_iff_getElem.1 hx
  rw [List.length_take] at hi
  rw [List.getElem_take] at he
  have := List.not_of_lt_findIdx (p := (· == x)) (xs := s.data.toList) (show i < cutI s x by omega)
  simp [he] at this
theorem cutsB_no {s : ByteArray} {c : UInt8} (h : ¬ cutI s c < s.size) : cutsB s c = [s] := by
  unfold cutsB
  rw [segsT_last _ _ (cutI_free h)]
  rfl
theorem cutsB_yes {s : ByteArray} {c : UInt8} (h : cutI s c < s.size) : cutsB s c = cutA s c :: cutsB (cutB s c) c := by
  have e : s.data.toList = (cutA s c).data.toList ++ c :: (cutB s c).data.toList := by
    conv => lhs; rw [cut_back (show cutF s c = true by unfold cutF; exact decide_eq_true h)]
    simp
  unfold cutsB
  rw [e, segsT_next _ _ _ (cutA_free s c)]
  rfl
theorem segsT_sum (c : UInt8) : ∀ (l cur x : List UInt8), x ∈ segsT c l cur → x.length ≤ cur.length + l.length
  | [], cur, x, h => by simp [segsT] at h; simp [h]
  | b :: l, cur, x, h => by
    rw [segsT] at h
    split at h
    · rcases List.mem_cons.1 h with rfl | h
      · simp
      · have := segsT_sum c l [] x h
        simp at this ⊢; omega
    · have := segsT_sum c l _ x h
      simp at this ⊢; omega
theorem cutsB_size {s x : ByteArray} {c : UInt8} (h : x ∈ cutsB s c) : x.size ≤ s.size := by
  obtain ⟨l, hl, rfl⟩ := List.mem_map.1 h
  have := segsT_sum c _ _ _ hl
  show l.toArray.size ≤ s.size
  simpa using this
end Go.Proofs.YtnnnmbipmfopmaaGreatDoor

/- strings.SplitSeq at one byte: the iterator's contract. -/
namespace Go.Proofs.YtnnnmbipmfopmaaGreatDoor
set_option linter.unusedVariables false
open Go.RowKit Go.Shelf
attribute [local go_sem] Oper.semAt_some

/-- How much of the text is left: read off the box. -/
def leftC (c : Nat) (W : World) : Nat := match W.cell? ⟨c, 0, none⟩ with | some (.string s) => s.size | _ => 0
theorem leftC_eq {c : Nat} {W : World} {t : TypeId} {s : ByteArray} (h : Boxed W c t (.string s)) : leftC c W = s.size := by unfold leftC; rw [h.cell]
theorem boxKeep {W W' : World} {B c : Nat} {t : TypeId} {v : Value} (h : Boxed W B t v) (hk : KeepC c W W') (h1 : c ≤ B) (h2 : B < c + 3) : Boxed W' B t v := (hk B h1 h2).trans h
theorem boxPut {W : World} {B B' : Nat} {t : TypeId} {v x : Value} (h : Boxed W B t v) (hne : B ≠ B') : Boxed (W.setCell ⟨B', 0, none⟩ x) B t v := h.kept (grownBy_setCell' W _ x) (fun e => by cases e; exact hne rfl)
theorem boxBelow {n₀ : Nat} {W W' : World} {B : Nat} {t : TypeId} {v : Value} (h : Boxed W B t v) (hb : Below n₀ W W') (hl : B < n₀) : Boxed W' B t v := (hb.block B hl).trans h

set_option maxRecDepth 100000 in
set_option maxHeartbeats 1000000 in
theorem splitSeq1_c (n : Nat) (hn : 1 ≤ n) (s : ByteArray) (b : UInt8) (hs : s.size ≤ 4000000000) (c : Nat) (ts ti : TypeId) (w : World)
    (h1 : Boxed w c ts (.string s)) (h2 : Boxed w (c + 1) ts (.string ⟨#[b]⟩)) (h3 : Boxed w (c + 2) ti (.int .i64 0)) :
    SeqC Fence.wide n Tryz.prog 167 #[.pointer (some ⟨c + 1, 0, none⟩), .pointer (some ⟨c, 0, none⟩), .pointer (some ⟨c + 2, 0, none⟩)] Value.string c (cutsB s b) w := by
  intro l J W hW hJ hY h0
  have b1 : Boxed W c ts (.string s) := boxBelow h1 hW h1.lt
  have b2 : Boxed W (c + 1) ts (.string ⟨#[b]⟩) := boxBelow h2 hW h2.lt
  have b3 : Boxed W (c + 2) ti (.int .i64 0) := boxBelow h3 hW h3.lt
  have hsep : (⟨#[b]⟩ : ByteArray).size = 1 := rfl
  refine callsIn_of_wp Tryz.func167 rfl trivial ?_ rfl
  simp only [Tryz.ntmps167, List.size_toArray, List.length_cons, List.length_nil, Nat.reduceAdd, Nat.reduceSub, Array.replicate_succ, Array.replicate_zero, List.push_toArray, List.append_toArray, List.nil_append, List.cons_append]
  have c2 := b2.cell
  gi_wp2
  gi_loopw [] (fun wr => ∃ (pre : List ByteArray) (r : ByteArray), cutsB s b = pre ++ cutsB r b ∧ r.size ≤ s.size ∧ Boxed wr c ts (.string r) ∧ Boxed wr (c + 1) ts (.string ⟨#[b]⟩) ∧ Boxed wr (c + 2) ti (.int .i64 0) ∧ J pre wr)
    (fun wr => leftC c wr)
  case atStart =>
    exact ⟨[], s, rfl, Nat.le_refl _, b1, b2, b3, h0⟩
  case round =>
    obtain ⟨pre, r, hx, hr, d1, d2, d3, hJr⟩ := hrel
    have e1 := d1.cell
    have e2 := d2.cell
    have e3 := d3.cell
    by_cases hcut : cutI r b < r.size
    · have hseg := cutsB_yes hcut
      have hi : Lib.indexByte r.data.toList b = (cutI r b : Int) := idxB_yes hcut
      obtain ⟨fn, tmps, assign, body, hy, hR⟩ := hY pre (cutA r b) wr hJr ⟨cutsB (cutB r b) b, by rw [hx, hseg]; simp⟩
      unfold cutA at hy
      gi_wp2_with (refine ⟨trivial, ?_⟩; gi_at_call 105; refine (callsIn_wide.2 (Tryz.strings_Index_one r b wr)).mono ?_; rintro e w' ⟨rfl, rfl⟩; rw [hi])
      refine hR.mono ?_
      rintro e W3 ⟨rfl, hJ3, hk3⟩
      have g1 := boxKeep d1 hk3 (by omega) (by omega)
      have g2 := boxKeep d2 hk3 (by omega) (by omega)
      have g3 := boxKeep d3 hk3 (by omega) (by omega)
      have k1 := g1.cell
      have k2 := g2.cell
      have k3 := g3.cell
      have kf := g1.frozen
      gi_wp2
      have hb' : cutB r b = r.extract (cutI r b + 1) r.size := rfl
      rw [← hb']
      have z1 := g1.set (.string (cutB r b))
      refine ⟨⟨pre ++ [cutA r b], cutB r b, by rw [hx, hseg]; simp, Nat.le_trans (cutB_size r b) hr, z1, boxPut g2 (by omega), boxPut g3 (by omega), hJ _ _ _ hJ3 (grownBy_setCell' W3 c _)⟩, ?_⟩
      rw [leftC_eq z1, leftC_eq d1]
      unfold cutB
      rw [ByteArray.size_extract]
      omega
    · have hseg := cutsB_no hcut
      have hi : Lib.indexByte r.data.toList b = -1 := idxB_no hcut
      obtain ⟨fn, tmps, assign, body, hy, hR⟩ := hY pre r wr hJr (by rw [hx, hseg]; exact List.prefix_refl _)
      gi_wp2_with (refine ⟨trivial, ?_⟩; gi_at_call 105; refine (callsIn_wide.2 (Tryz.strings_Index_one r b wr)).mono ?_; rintro e w' ⟨rfl, rfl⟩; rw [hi])
      refine hR.mono ?_
      rintro e W3 ⟨rfl, hJ3, hk3⟩
      gi_wp2
      go_end0
      exact ⟨⟨_, rfl⟩, by rw [hx, hseg]; exact hJ3⟩
end Go.Proofs.YtnnnmbipmfopmaaGreatDoor

/- strings.SplitSeq: the function value it hands back. -/
namespace Go.Proofs.YtnnnmbipmfopmaaGreatDoor
set_option linter.unusedVariables false
open Go.RowKit Go.Shelf

/-- The world behind strings.SplitSeq: three boxes. -/
def seqW (s sep : ByteArray) (w : World) : World := ((w.alloc (.cells #[.string s] 9)).alloc (.cells #[.string sep] 9)).alloc (.cells #[.int .i64 0] 3)
def seqF (c : Nat) : Value := .func (.func 167) #[] #[.pointer (some ⟨c + 1, 0, none⟩), .pointer (some ⟨c, 0, none⟩), .pointer (some ⟨c + 2, 0, none⟩)]
theorem splitSeq_c (s sep : ByteArray) (w : World) : Calls Tryz.prog 142 #[.string s, .string sep, .int .i64 0] w fun e w' => e = .returned (seqF w.heap.size) ∧ w' = seqW s sep w := by
  go_enter Tryz.func142, Tryz.ntmps142
  go_wp2
  go_ret
  exact ⟨rfl, rfl⟩
theorem SplitSeq_c (s sep : ByteArray) (w : World) : Calls Tryz.prog 115 #[.string s, .string sep] w fun e w' => e = .returned (seqF w.heap.size) ∧ w' = seqW s sep w := by
  go_enter Tryz.func115, Tryz.ntmps115
  go_wp2_with fail
  refine (splitSeq_c s sep _).mono ?_
  rintro e w1 ⟨rfl, rfl⟩
  go_wp2
  go_ret
  exact ⟨rfl, rfl⟩
theorem seqW_size (s sep : ByteArray) (w : World) : (seqW s sep w).heap.size = w.heap.size + 3 := by simp [seqW]
theorem seqW_below (s sep : ByteArray) (w : World) : Below w.heap.size w (seqW s sep w) := (((Below.refl _ w).alloc (Nat.le_refl _) _).alloc (by simp) _).alloc (by simp; omega) _
theorem seqW_boxes (s sep : ByteArray) (w : World) : Boxed (seqW s sep w) w.heap.size 9 (.string s) ∧ Boxed (seqW s sep w) (w.heap.size + 1) 9 (.string sep) ∧ Boxed (seqW s sep w) (w.heap.size + 2) 3 (.int .i64 0) := by
  have h1 := Boxed.new w 9 (.string s)
  have h2 := Boxed.new (w.alloc (.cells #[.string s] 9)) 9 (.string sep)
  have h3 := Boxed.new ((w.alloc (.cells #[.string s] 9)).alloc (.cells #[.string sep] 9)) 3 (.int .i64 0)
  simp only [World.size_alloc] at h2 h3
  exact ⟨(h1.alloc _).alloc _, h2.alloc _, h3⟩
end Go.Proofs.YtnnnmbipmfopmaaGreatDoor

/- strings.Fields of a plain text: a list of one's own; R.WrapOf, walked. -/
namespace Go.Proofs.YtnnnmbipmfopmaaGreatDoor
set_option linter.unusedVariables false
open Go.RowKit Go.Sort

theorem mkB_app (a b : List UInt8) : mkB a ++ mkB b = mkB (a ++ b) := by
  unfold mkB
  apply ByteArray.ext
  simp
theorem mkB_size (a : List UInt8) : (mkB a).size = a.length := by
  show a.toArray.size = _
  rw [List.size_toArray]
end Go.Proofs.YtnnnmbipmfopmaaGreatDoor

