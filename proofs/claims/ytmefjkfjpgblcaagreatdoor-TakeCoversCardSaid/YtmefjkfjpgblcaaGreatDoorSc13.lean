/- Texts packed: ChkS, ChkA, ChkB, ChkC, GrS, HdS, HeadD, HeadE, ChkR, RdS, TcS, CgS, CgT, TcM. -/
import Derived.Test.YtmefjkfjpgblcaaGreatDoorSc12
import Derived.Test.YtmefjkfjpgblcaaGreatDoorSc02
import Derived.RegionTactic
import Derived.Test.YtmefjkfjpgblcaaGreatDoorSc05
import Derived.Lib.LastIndexLaws
import Derived.Lib.SlicesS
import Derived.Test.YtmefjkfjpgblcaaGreatDoorSc01
/- The errors of scripts in plain words. No program in sight. -/
namespace Go.Proofs.YtmefjkfjpgblcaaGreatDoor
set_option linter.unusedVariables false
open Go.RowKit

def nameB (s : ByteArray) : Bool := proB s 30 ⟨#[39, 46, 45]⟩
def turnC (c : UInt8) : Bool := capB c || decide (c.toNat = 32) || decide (c.toNat = 46)
def turnB (s : ByteArray) : Bool := allB turnC s && decide (s.size ≤ 40)
def brB (s : ByteArray) : Bool := Lib.containsAny s.data.toList (⟨#[40, 41]⟩ : ByteArray).data.toList
/-- The error of a paragraph by itself. -/
def paraE (p : Para) : Int :=
  if p.kind < 1 ∨ 5 < p.kind then 4
  else if p.text.size = 0 ∨ plainB p.text = false then 3
  else if 2000 < p.text.size ∨ (p.kind = 3 ∧ 200 < p.text.size) then 2
  else if p.kind = 2 ∧ nameB p.text = false then 5
  else if p.kind = 3 ∧ brB p.text = true then 3
  else if p.kind = 5 ∧ turnB p.text = false then 3 else 0
/-- Whether a paragraph of a kind may follow one of another kind. -/
def followsB (kind last : Int) : Bool := if kind = 3 then decide (last = 2) || decide (last = 4) else if kind = 4 then decide (last = 2) || decide (last = 3) || decide (last = 4) else !decide (last = 2) && !decide (last = 3)
def parasE : Int → List Para → Int
  | last, [] => if last = 2 ∨ last = 3 then 7 else 0
  | last, p :: r => if ¬ paraE p = 0 then paraE p else if followsB p.kind last = false then 7 else parasE p.kind r
theorem parasE_step (l : List Para) (k : Nat) (last : Int) (hk : k < l.length) : parasE last (l.drop k) = if ¬ paraE l[k] = 0 then paraE l[k] else if followsB l[k].kind last = false then 7 else parasE l[k].kind (l.drop (k + 1)) := by
  rw [List.drop_eq_getElem_cons hk, parasE]
theorem parasE_end (l : List Para) (k : Nat) (last : Int) (hk : ¬ k < l.length) : parasE last (l.drop k) = if last = 2 ∨ last = 3 then 7 else 0 := by
  rw [List.drop_eq_nil_of_le (by omega), parasE]
def sceneE (s : Scene) : Int := if setB s.set = false then 3 else parasE 0 s.paras
/-- The error of the scenes from one on; the numbers of those before it. -/
def scenesE : Nat → List ByteArray → List Scene → Int
  | _, _, [] => 0
  | k, seen, x :: r =>
    if ¬ x.no = ⟨#[]⟩ ∧ numB x.no = false then 5
    else if ¬ x.no = ⟨#[]⟩ ∧ (seen.any fun y => decide (y = x.no)) = true then 6
    else if x.place < 1 ∨ 3 < x.place ∨ x.time < 1 ∨ 5 < x.time then 4
    else if k = 0 ∧ x.time = 5 then 7
    else if ¬ sceneE x = 0 then sceneE x else scenesE (k + 1) (x.no :: seen) r
def parasN (l : List Scene) : Nat := (l.map fun x => x.paras.length).sum
def chkE (x : Script) : Int :=
  if x.title.size < 1 ∨ 60 < x.title.size ∨ plainB x.title = false then 3
  else if 300 < x.scenes.length ∨ 4000 < parasN x.scenes then 2
  else scenesE 0 [] x.scenes
end Go.Proofs.YtmefjkfjpgblcaaGreatDoor

/- The program's tests of paragraphs. -/
namespace Go.Proofs.YtmefjkfjpgblcaaGreatDoor
set_option linter.unusedVariables false
open Go.RowKit

set_option maxHeartbeats 800000 in
theorem isName_c (s : ByteArray) (w : World) (hs : s.size ≤ 4000000000) (hm : MaxLaid w) : Calls Tryz.prog 271 #[.string s] w fun e w' => e = .returned (.bool (nameB s)) ∧ w = w' := by
  have HP := Lib.hid (proper_c s ⟨#[39, 46, 45]⟩ 30 w hs hm (by omega))
  have HR := Lib.hid (show nameB s = proB s 30 ⟨#[39, 46, 45]⟩ from rfl)
  generalize proB s 30 ⟨#[39, 46, 45]⟩ = p1 at *
  clear hm
  go_enter Tryz.func271, Tryz.ntmps271
  go_wp2_with fail
  refine HP.out.mono ?_
  rintro e w' ⟨rfl, rfl⟩
  go_wp2
  go_ret
  exact ⟨ret_bool HR.out.symm, rfl⟩
set_option maxHeartbeats 800000 in
theorem isTurn_c (s : ByteArray) (w : World) (hs : s.size ≤ 4000000000) : Calls Tryz.prog 304 #[.string s] w fun e w' => e = .returned (.bool (turnB s)) ∧ w = w' := by
  go_enter Tryz.func304, Tryz.ntmps304
  go_wp2
  go_loop [6] (fun i => ∃ k : Nat, k ≤ s.size ∧ i = .int .i64 k ∧ Hid (∀ x ∈ s.data.toList.take k, turnC x = true)) (fun i => s.size - (intOf i).toNat)
  case atStart => exact ⟨0, Nat.zero_le _, rfl, by intro x hx; simp at hx⟩
  case round =>
    obtain ⟨k, hk, rfl, HN⟩ := hrel
    by_cases hlt : k < s.size
    · have hu : s[k].toNat < 256 := s[k].toNat_lt
      have HCC := Lib.hid (isCapital_c s[k] w)
      have HNX := Lib.hid (fun (h : turnC s[k] = true) => allB_next hlt HN.out h)
      have HX := Lib.hid (fun (h : turnC s[k] = false) => show turnB s = false by unfold turnB; rw [allB_no hlt h]; rfl)
      cases hc1 : capB s[k] with
      | true =>
        have HK := Lib.hid (HNX.out (by simp [turnC, hc1]))
        go_wp2_with (first | (go_at_call 145; refine HCC.out.mono ?_; rintro e w' ⟨rfl, rfl⟩; rw [hc1]) | fail)
        go_round
        case rel => exact ⟨k + 1, by omega, intNum, HK.out⟩
        case measure => simp [intOf]; omega
      | false =>
      by_cases hc2 : s[k].toNat = 32
      · have HK := Lib.hid (HNX.out (by simp [turnC, hc2]))
        have hc2' : ((s[k].toNat : Int) != 32) = false := by rw [hc2]; rfl
        clear hc2
        go_wp2_with (first | (go_at_call 145; refine HCC.out.mono ?_; rintro e w' ⟨rfl, rfl⟩; rw [hc1]) | fail)
        go_round
        case rel => exact ⟨k + 1, by omega, intNum, HK.out⟩
        case measure => simp [intOf]; omega
      have hc2' : ((s[k].toNat : Int) != 32) = true := bne_iff_ne.2 (by omega)
      by_cases hc3 : s[k].toNat = 46
      · have HK := Lib.hid (HNX.out (by simp [turnC, hc3]))
        have hc3' : ((s[k].toNat : Int) != 46) = false := by rw [hc3]; rfl
        clear hc3 hc2
        go_wp2_with (first | (go_at_call 145; refine HCC.out.mono ?_; rintro e w' ⟨rfl, rfl⟩; rw [hc1]) | fail)
        go_round
        case rel => exact ⟨k + 1, by omega, intNum, HK.out⟩
        case measure => simp [intOf]; omega
      · have HR := Lib.hid (HX.out (by simp [turnC, hc1, hc2, hc3]))
        have hc3' : ((s[k].toNat : Int) != 46) = true := bne_iff_ne.2 (by omega)
        clear hc3 hc2
        go_wp2_with (first | (go_at_call 145; refine HCC.out.mono ?_; rintro e w' ⟨rfl, rfl⟩; rw [hc1]) | fail)
        go_ret
        exact ⟨ret_bool HR.out.symm, rfl⟩
    · have HR := Lib.hid (show turnB s = decide ((s.size : Int) ≤ 40) by unfold turnB; rw [allB_yes hlt HN.out, Bool.true_and, decide_eq_decide]; omega)
      go_wp2
      go_ret
      exact ⟨ret_bool HR.out.symm, rfl⟩
set_option maxHeartbeats 800000 in
theorem follows_c (kind last : Int) (w : World) : Calls Tryz.prog 245 #[.int .i64 kind, .int .i64 last] w fun e w' => e = .returned (.bool (followsB kind last)) ∧ w = w' := by
  by_cases h1 : kind = 3
  · have HR := Lib.hid (show followsB kind last = (decide (last = 2) || decide (last = 4)) from if_pos h1)
    have h1' : (kind == 3) = true := by rw [h1]; rfl
    clear h1
    by_cases h2 : last = 2
    · have h2' : (last == 2) = true := by rw [h2]; rfl
      have HR2 := Lib.hid (show followsB kind last = true by rw [HR.out, decide_eq_true h2]; rfl)
      clear h2
      go_enter Tryz.func245, Tryz.ntmps245
      go_wp2
      go_ret
      exact ⟨ret_bool HR2.out.symm, rfl⟩
    · have h2' : (last == 2) = false := beq_eq_false_iff_ne.2 h2
      have HR2 := Lib.hid (show followsB kind last = (last == 4) by rw [HR.out, decide_eq_false h2]; rfl)
      clear h2
      go_enter Tryz.func245, Tryz.ntmps245
      go_wp2
      go_ret
      exact ⟨ret_bool HR2.out.symm, rfl⟩
  have h1' : (kind == 3) = false := beq_eq_false_iff_ne.2 h1
  by_cases h4 : kind = 4
  · have HR := Lib.hid (show followsB kind last = (decide (last = 2) || decide (last = 3) || decide (last = 4)) by rw [followsB, if_neg h1, if_pos h4])
    have h4' : (kind == 4) = true := by rw [h4]; rfl
    clear h1 h4
    by_cases h2 : last = 2
    · have h2' : (last == 2) = true := by rw [h2]; rfl
      have HR2 := Lib.hid (show followsB kind last = true by rw [HR.out, decide_eq_true h2]; rfl)
      clear h2
      go_enter Tryz.func245, Tryz.ntmps245
      go_wp2
      go_ret
      exact ⟨ret_bool HR2.out.symm, rfl⟩
    have h2' : (last == 2) = false := beq_eq_false_iff_ne.2 h2
    by_cases h3 : last = 3
    · have h3' : (last == 3) = true := by rw [h3]; rfl
      have HR2 := Lib.hid (show followsB kind last = true by rw [HR.out, decide_eq_true h3]; simp)
      clear h2 h3
      go_enter Tryz.func245, Tryz.ntmps245
      go_wp2
      go_ret
      exact ⟨ret_bool HR2.out.symm, rfl⟩
    · have h3' : (last == 3) = false := beq_eq_false_iff_ne.2 h3
      have HR2 := Lib.hid (show followsB kind last = (last == 4) by rw [HR.out, decide_eq_false h2, decide_eq_false h3]; rfl)
      clear h2 h3
      go_enter Tryz.func245, Tryz.ntmps245
      go_wp2
      go_ret
      exact ⟨ret_bool HR2.out.symm, rfl⟩
  · have HR := Lib.hid (show followsB kind last = (!decide (last = 2) && !decide (last = 3)) by rw [followsB, if_neg h1, if_neg h4])
    have h4' : (kind == 4) = false := beq_eq_false_iff_ne.2 h4
    clear h1 h4
    by_cases h2 : last = 2
    · have h2' : (last != 2) = false := by rw [h2]; rfl
      have HR2 := Lib.hid (show followsB kind last = false by rw [HR.out, decide_eq_true h2]; rfl)
      clear h2
      go_enter Tryz.func245, Tryz.ntmps245
      go_wp2
      go_ret
      exact ⟨ret_bool HR2.out.symm, rfl⟩
    · have h2' : (last != 2) = true := bne_iff_ne.2 h2
      have HR2 := Lib.hid (show followsB kind last = (last != 3) by rw [HR.out, decide_eq_false h2]; rfl)
      clear h2
      go_enter Tryz.func245, Tryz.ntmps245
      go_wp2
      go_ret
      exact ⟨ret_bool HR2.out.symm, rfl⟩
end Go.Proofs.YtmefjkfjpgblcaaGreatDoor

/- The program's errors of paragraphs and of scenes. -/
namespace Go.Proofs.YtmefjkfjpgblcaaGreatDoor
set_option linter.unusedVariables false
open Go.RowKit

theorem max_alloc {w : World} (h : MaxLaid w) (o : Obj) : MaxLaid (w.alloc o) := max_below h ((Below.refl w.heap.size w).alloc (Nat.le_refl _) o) (Nat.le_refl _)
theorem plain_ascii {s : ByteArray} (h : plainB s = true) : ∀ (j : Nat) (b : UInt8), s.data.toList[j]? = some b → b.toNat < 128 := by
  intro j b hj
  unfold plainB allB at h
  rw [Bool.and_eq_true, List.all_eq_true] at h
  have h2 := h.1 b (List.mem_of_getElem? hj)
  simp [prB] at h2
  omega
def PfP (p : Para) (w : World) (e : Ending) (w' : World) : Prop := e = .returned (.int .i64 (paraE p)) ∧ Below w.heap.size w w'
theorem PfP.mk {p : Para} {q : Int} {w w' : World} (h : paraE p = q) (hb : Below w.heap.size w w') : PfP p w (.returned (.int .i64 q)) w' := ⟨by rw [h], hb⟩
set_option maxRecDepth 100000 in
set_option maxHeartbeats 4000000 in
theorem paraFault_c (p : Para) (w : World) (hs : p.text.size ≤ 4000000000) (hm : MaxLaid w) : Calls Tryz.prog 244 #[.agg #[.int .i64 p.kind, .string p.text]] w (PfP p w) := by
  obtain ⟨kind, s⟩ := p
  dsimp only at hs ⊢
  have HM := Lib.hid (max_alloc hm (.cells #[.int .i64 kind, .string s] 198))
  have HB := Lib.hid ((Below.refl w.heap.size w).alloc (Nat.le_refl _) (.cells #[.int .i64 kind, .string s] 198))
  have HPL := Lib.hid (Plain_c s (w.alloc (.cells #[.int .i64 kind, .string s] 198)) hs HM.out)
  have HNA := Lib.hid (isName_c s (w.alloc (.cells #[.int .i64 kind, .string s] 198)) hs HM.out)
  have HTU := Lib.hid (isTurn_c s (w.alloc (.cells #[.int .i64 kind, .string s] 198)) hs)
  clear hm
  by_cases k1 : kind < 1
  · have HR := Lib.hid (show paraE ⟨kind, s⟩ = 4 from if_pos (.inl k1))
    go_enter Tryz.func244, Tryz.ntmps244
    go_wp2
    go_ret
    exact PfP.mk HR.out HB.out
  by_cases k2 : 5 < kind
  · have HR := Lib.hid (show paraE ⟨kind, s⟩ = 4 from if_pos (.inr k2))
    have k1' : 1 ≤ kind := by omega
    clear k1
    go_enter Tryz.func244, Tryz.ntmps244
    go_wp2
    go_ret
    exact PfP.mk HR.out HB.out
  have HR1 := Lib.hid (show paraE ⟨kind, s⟩ = if s.size = 0 ∨ plainB s = false then 3 else if 2000 < s.size ∨ (kind = 3 ∧ 200 < s.size) then 2 else if kind = 2 ∧ nameB s = false then 5 else if kind = 3 ∧ brB s = true then 3 else if kind = 5 ∧ turnB s = false then 3 else 0 from if_neg (by dsimp only; omega))
  have k1' : 1 ≤ kind := by omega
  have k2' : kind ≤ 5 := by omega
  clear k1 k2
  cases he : s.toList.isEmpty with
  | true =>
    have HR := Lib.hid (HR1.out.trans (if_pos (.inl (by rw [isEmpty_size] at he; simpa using he))))
    go_enter Tryz.func244, Tryz.ntmps244
    go_wp2
    go_ret
    exact PfP.mk HR.out HB.out
  | false =>
  have hse : ¬ s.size = 0 := by rw [isEmpty_size] at he; simpa using he
  cases hpl : plainB s with
  | false =>
    have HR := Lib.hid (HR1.out.trans (if_pos (.inr hpl)))
    clear hse
    go_enter Tryz.func244, Tryz.ntmps244
    go_wp2_with (first | (go_at_call 155; refine HPL.out.mono ?_; rintro e w' ⟨rfl, rfl⟩; rw [hpl]) | fail)
    go_ret
    exact PfP.mk HR.out HB.out
  | true =>
  have HR2 := Lib.hid (HR1.out.trans (if_neg (by rintro (h | h); exact hse h; rw [hpl] at h; cases h)))
  have HCA := Lib.hid (Tryz.strings_ContainsAny_laid s ⟨#[40, 41]⟩ (w.alloc (.cells #[.int .i64 kind, .string s] 198)) (by omega) (by decide) (plain_ascii hpl) (by
    intro j b hj
    have h : ((⟨#[40, 41]⟩ : ByteArray).data.toList.all fun b => decide (b.toNat < 128)) = true := by decide
    rw [List.all_eq_true] at h
    simpa using h b (List.mem_of_getElem? hj)))
  clear hse HR1
  by_cases k3 : 2000 < s.size
  · have HR := Lib.hid (HR2.out.trans (if_pos (.inl k3)))
    have k3' : (2000 : Int) < s.size := by omega
    go_enter Tryz.func244, Tryz.ntmps244
    go_wp2_with (first | (go_at_call 155; refine HPL.out.mono ?_; rintro e w' ⟨rfl, rfl⟩; rw [hpl]) | fail)
    go_ret
    exact PfP.mk HR.out HB.out
  have k3' : (s.size : Int) ≤ 2000 := by omega
  rcases (show kind = 1 ∨ kind = 2 ∨ kind = 3 ∨ kind = 4 ∨ kind = 5 by omega) with rfl | rfl | rfl | rfl | rfl
  · have HR := Lib.hid (show paraE ⟨1, s⟩ = 0 by rw [HR2.out, if_neg (by omega), if_neg (by rintro ⟨h, _⟩; exact absurd h (by decide)), if_neg (by rintro ⟨h, _⟩; exact absurd h (by decide)), if_neg (by rintro ⟨h, _⟩; exact absurd h (by decide))])
    go_enter Tryz.func244, Tryz.ntmps244
    go_wp2_with (first | (go_at_call 155; refine HPL.out.mono ?_; rintro e w' ⟨rfl, rfl⟩; rw [hpl]) | fail)
    go_ret
    exact PfP.mk HR.out HB.out
  · cases hna : nameB s with
    | false =>
      have HR := Lib.hid (show paraE ⟨2, s⟩ = 5 by rw [HR2.out, if_neg (by omega), if_pos ⟨rfl, hna⟩])
      go_enter Tryz.func244, Tryz.ntmps244
      go_wp2_with (first | (go_at_call 155; refine HPL.out.mono ?_; rintro e w' ⟨rfl, rfl⟩; rw [hpl]) | (go_at_call 271; refine HNA.out.mono ?_; rintro e w' ⟨rfl, rfl⟩; rw [hna]) | fail)
      go_ret
      exact PfP.mk HR.out HB.out
    | true =>
      have HR := Lib.hid (show paraE ⟨2, s⟩ = 0 by rw [HR2.out, if_neg (by omega), if_neg (by rintro ⟨_, h⟩; rw [hna] at h; cases h), if_neg (by rintro ⟨h, _⟩; exact absurd h (by decide)), if_neg (by rintro ⟨h, _⟩; exact absurd h (by decide))])
      go_enter Tryz.func244, Tryz.ntmps244
      go_wp2_with (first | (go_at_call 155; refine HPL.out.mono ?_; rintro e w' ⟨rfl, rfl⟩; rw [hpl]) | (go_at_call 271; refine HNA.out.mono ?_; rintro e w' ⟨rfl, rfl⟩; rw [hna]) | fail)
      go_ret
      exact PfP.mk HR.out HB.out
  · by_cases k4 : 200 < s.size
    · have HR := Lib.hid (show paraE ⟨3, s⟩ = 2 by rw [HR2.out, if_pos (.inr ⟨rfl, k4⟩)])
      have k4' : (200 : Int) < s.size := by omega
      go_enter Tryz.func244, Tryz.ntmps244
      go_wp2_with (first | (go_at_call 155; refine HPL.out.mono ?_; rintro e w' ⟨rfl, rfl⟩; rw [hpl]) | fail)
      go_ret
      exact PfP.mk HR.out HB.out
    · have HR := Lib.hid (show paraE ⟨3, s⟩ = if brB s = true then 3 else 0 by
        rw [HR2.out, if_neg (by omega), if_neg (by rintro ⟨h, _⟩; exact absurd h (by decide))]
        cases hbr : brB s with
        | true => rw [if_pos ⟨rfl, rfl⟩, if_pos rfl]
        | false => rw [if_neg (by rintro ⟨_, h⟩; cases h), if_neg (by rintro ⟨h, _⟩; exact absurd h (by decide)), if_neg (by decide)])
      have k4' : (s.size : Int) ≤ 200 := by omega
      have HBR := Lib.hid (show brB s = Lib.containsAny s.data.toList (⟨#[40, 41]⟩ : ByteArray).data.toList from rfl)
      generalize brB s = bb at *
      rw [← HBR.out] at HCA
      clear k4
      go_enter Tryz.func244, Tryz.ntmps244
      go_wp2_with (first | (go_at_call 155; refine HPL.out.mono ?_; rintro e w' ⟨rfl, rfl⟩; rw [hpl]) | fail)
      refine HCA.out.mono ?_
      rintro e w2 ⟨rfl, hb2⟩
      have HB2 := Lib.hid (HB.out.trans (hb2.mono (by simp)))
      have c0 : w2.cell? ⟨w.heap.size, 0, none⟩ = some (.int .i64 3) := (hb2.cell (p := ⟨w.heap.size, 0, none⟩) (by simp)).trans ((str_cells (heap_alloc_new w _)).1 0)
      have c1 : w2.cell? ⟨w.heap.size, 1, none⟩ = some (.string s) := (hb2.cell (p := ⟨w.heap.size, 1, none⟩) (by simp)).trans ((str_cells (heap_alloc_new w _)).1 1)
      clear hb2
      cases bb with
      | true =>
        go_wp2
        go_ret
        exact PfP.mk HR.out HB2.out
      | false =>
        go_wp2
        go_ret
        exact PfP.mk HR.out HB2.out
  · have HR := Lib.hid (show paraE ⟨4, s⟩ = 0 by rw [HR2.out, if_neg (by omega), if_neg (by rintro ⟨h, _⟩; exact absurd h (by decide)), if_neg (by rintro ⟨h, _⟩; exact absurd h (by decide)), if_neg (by rintro ⟨h, _⟩; exact absurd h (by decide))])
    go_enter Tryz.func244, Tryz.ntmps244
    go_wp2_with (first | (go_at_call 155; refine HPL.out.mono ?_; rintro e w' ⟨rfl, rfl⟩; rw [hpl]) | fail)
    go_ret
    exact PfP.mk HR.out HB.out
  · cases htu : turnB s with
    | false =>
      have HR := Lib.hid (show paraE ⟨5, s⟩ = 3 by rw [HR2.out, if_neg (by omega), if_neg (by rintro ⟨h, _⟩; exact absurd h (by decide)), if_neg (by rintro ⟨h, _⟩; exact absurd h (by decide)), if_pos ⟨rfl, htu⟩])
      go_enter Tryz.func244, Tryz.ntmps244
      go_wp2_with (first | (go_at_call 155; refine HPL.out.mono ?_; rintro e w' ⟨rfl, rfl⟩; rw [hpl]) | (go_at_call 304; refine HTU.out.mono ?_; rintro e w' ⟨rfl, rfl⟩; rw [htu]) | fail)
      go_ret
      exact PfP.mk HR.out HB.out
    | true =>
      have HR := Lib.hid (show paraE ⟨5, s⟩ = 0 by rw [HR2.out, if_neg (by omega), if_neg (by rintro ⟨h, _⟩; exact absurd h (by decide)), if_neg (by rintro ⟨h, _⟩; exact absurd h (by decide)), if_neg (by rintro ⟨_, h⟩; rw [htu] at h; cases h)])
      go_enter Tryz.func244, Tryz.ntmps244
      go_wp2_with (first | (go_at_call 155; refine HPL.out.mono ?_; rintro e w' ⟨rfl, rfl⟩; rw [hpl]) | (go_at_call 304; refine HTU.out.mono ?_; rintro e w' ⟨rfl, rfl⟩; rw [htu]) | fail)
      go_ret
      exact PfP.mk HR.out HB.out
end Go.Proofs.YtmefjkfjpgblcaaGreatDoor

/- The program's error of a scene. -/
namespace Go.Proofs.YtmefjkfjpgblcaaGreatDoor
set_option linter.unusedVariables false
open Go.RowKit

def ScP (x : Scene) (w : World) (e : Ending) (w' : World) : Prop := e = .returned (.int .i64 (sceneE x)) ∧ Below w.heap.size w w'
theorem ScP.mk {x : Scene} {q : Int} {w w' : World} (h : sceneE x = q) (hb : Below w.heap.size w w') : ScP x w (.returned (.int .i64 q)) w' := ⟨by rw [h], hb⟩
set_option maxRecDepth 100000 in
set_option maxHeartbeats 4000000 in
theorem sceneFault_c {F : Nat → Prop} (x : Scene) (v : Value) (w : World) (hv : Sli paraR w F x.paras v) (hF : ∀ b, F b → b < w.heap.size) (hs : x.set.size ≤ 4000000000) (ht : ∀ p ∈ x.paras, p.text.size ≤ 4000000000) (hl : x.paras.length ≤ 1000000) (hm : MaxLaid w) :
    Calls Tryz.prog 185 #[.agg #[.string x.no, .int .i64 x.place, .string x.set, .int .i64 x.time, v]] w (ScP x w) := by
  obtain ⟨A, c, rfl, hlc, hcm⟩ := hv.form
  obtain ⟨L, hL⟩ : ∃ L, x.paras.length = L := ⟨_, rfl⟩
  have HL := Lib.hid hL
  rw [hL] at hv hlc hl ⊢
  have HM0 := Lib.hid hm
  have HM := Lib.hid (max_alloc hm (.cells #[.string x.no, .int .i64 x.place, .string x.set, .int .i64 x.time, .slice A L c] 119))
  have HB := Lib.hid ((Below.refl w.heap.size w).alloc (Nat.le_refl _) (.cells #[.string x.no, .int .i64 x.place, .string x.set, .int .i64 x.time, .slice A L c] 119))
  have HS := Lib.hid (isSet_c x.set (w.alloc (.cells #[.string x.no, .int .i64 x.place, .string x.set, .int .i64 x.time, .slice A L c] 119)) hs HM.out)
  have HV := Lib.hid hv
  have HF := Lib.hid hF
  have HT := Lib.hid ht
  clear hL hm hv hF ht
  cases hse : setB x.set with
  | false =>
    have HR := Lib.hid (show sceneE x = 3 from if_pos hse)
    go_enter Tryz.func185, Tryz.ntmps185
    go_wp2_with (first | (go_at_call 243; refine HS.out.mono ?_; rintro e w' ⟨rfl, rfl⟩; rw [hse]) | fail)
    go_ret
    exact ScP.mk HR.out HB.out
  | true =>
  have HR := Lib.hid (show sceneE x = parasE 0 x.paras from if_neg (by rw [hse]; decide))
  go_enter Tryz.func185, Tryz.ntmps185
  go_wp2_with (first | (go_at_call 243; refine HS.out.mono ?_; rintro e w' ⟨rfl, rfl⟩; rw [hse]) | fail)
  clear hse HS
  go_loopw [3, 14] (fun la i wr => ∃ (k : Nat) (q : Int), k ≤ L ∧ i = .int .i64 k ∧ la = .int .i64 q ∧ Hid (sceneE x = parasE q (x.paras.drop k)) ∧ Hid (Below w.heap.size w wr) ∧ w.heap.size ≤ wr.heap.size) (fun _ i _ => L - (intOf i).toNat)
  case atStart => exact ⟨0, 0, Nat.zero_le _, rfl, rfl, HR.out, HB.out, by simp⟩
  case round =>
    clear HB HM HR
    obtain ⟨k, q, hk, rfl, rfl, HE, HB, hzw⟩ := hrel
    by_cases hlt : k < L
    · have hk2 : k < x.paras.length := by rw [HL.out]; exact hlt
      obtain ⟨b, off, rfl, hfb, c0, c1⟩ := para_at (HV.out.below HB.out HF.out) k hk2
      have hst := HE.out.trans (parasE_step x.paras k q hk2)
      have htx := HT.out _ (List.getElem_mem hk2)
      have hbw : b < wr.heap.size := by have := HF.out b hfb; omega
      generalize x.paras[k]'hk2 = p at *
      have HST := Lib.hid hst
      have HB1 := Lib.hid (HB.out.alloc hzw (.cells #[.int .i64 p.kind, .string p.text] 198))
      have HPF := Lib.hid (paraFault_c p (wr.alloc (.cells #[.int .i64 p.kind, .string p.text] 198)) htx (max_below HM0.out HB1.out (Nat.le_refl _)))
      clear hst hk2 HE
      go_wp2_with fail
      refine HPF.out.mono ?_
      rintro e w2 ⟨rfl, hb2⟩
      have hz2 := hb2.size
      simp at hz2
      have HB2 := Lib.hid (HB1.out.trans (hb2.mono (by simp; omega)))
      have d0 : w2.cell? ⟨wr.heap.size, 0, none⟩ = some (.int .i64 p.kind) := (hb2.cell (p := ⟨wr.heap.size, 0, none⟩) (by simp)).trans ((str_cells (heap_alloc_new wr _)).1 0)
      have hw2 : wr.heap.size < w2.heap.size := by omega
      have HFO := Lib.hid (follows_c p.kind q w2)
      clear hb2 HPF c0 c1
      by_cases hp0 : paraE p = 0
      · rw [hp0]
        cases hfo : followsB p.kind q with
        | false =>
          have HR := Lib.hid (HST.out.trans (by rw [if_neg (by rw [hp0]; simp), if_pos hfo]))
          clear hp0 HST
          go_wp2_with (first | (go_at_call 245; refine HFO.out.mono ?_; rintro e w' ⟨rfl, rfl⟩; rw [hfo]) | fail)
          go_ret
          exact ScP.mk HR.out HB2.out
        | true =>
          have HR := Lib.hid (HST.out.trans (by rw [if_neg (by rw [hp0]; simp), if_neg (by rw [hfo]; decide)]))
          clear hp0 HST
          go_wp2_with (first | (go_at_call 245; refine HFO.out.mono ?_; rintro e w' ⟨rfl, rfl⟩; rw [hfo]) | fail)
          go_roundw
          case rel => exact ⟨k + 1, p.kind, by omega, intNum, rfl, HR.out, HB2.out, by omega⟩
          case measure => simp [intOf]; omega
      · have HR := Lib.hid (HST.out.trans (if_pos hp0))
        have hne : (paraE p != 0) = true := by rw [bne_iff_ne]; exact hp0
        generalize paraE p = pe at *
        clear hp0 HST
        go_wp2
        go_ret
        exact ScP.mk HR.out HB2.out
    · have hend := HE.out.trans (parasE_end x.paras k q (by rw [HL.out]; exact hlt))
      by_cases h2 : q = 2
      · have HR := Lib.hid (hend.trans (if_pos (.inl h2)))
        have h2' : (q == 2) = true := by rw [h2]; rfl
        clear hend h2
        go_wp2
        go_ret
        exact ScP.mk HR.out HB.out
      have h2' : (q == 2) = false := beq_eq_false_iff_ne.2 h2
      by_cases h3 : q = 3
      · have HR := Lib.hid (hend.trans (if_pos (.inr h3)))
        have h3' : (q == 3) = true := by rw [h3]; rfl
        clear hend h2 h3
        go_wp2
        go_ret
        exact ScP.mk HR.out HB.out
      · have HR := Lib.hid (hend.trans (if_neg (by rintro (h | h); exact h2 h; exact h3 h)))
        have h3' : (q == 3) = false := beq_eq_false_iff_ne.2 h3
        clear hend h2 h3
        go_wp2
        go_ret
        exact ScP.mk HR.out HB.out
end Go.Proofs.YtmefjkfjpgblcaaGreatDoor

/- The groups of a scene's paragraphs, in plain words. No program in sight. -/
namespace Go.Proofs.YtmefjkfjpgblcaaGreatDoor
set_option linter.unusedVariables false
open Go.RowKit

end Go.Proofs.YtmefjkfjpgblcaaGreatDoor

/- Headings of scenes and the text of a script, in plain words. No program in sight. -/
namespace Go.Proofs.YtmefjkfjpgblcaaGreatDoor
set_option linter.unusedVariables false
open Go.RowKit

def hRest (line : ByteArray) : ByteArray := if cutF line 32 = true ∧ numB (cutA line 32) = true then cutB line 32 else line
def hR2 (line : ByteArray) : ByteArray := cutB (hRest line) 32
def hK (r : ByteArray) : Int := Lib.lastIndex r.data.toList (⟨#[32, 45, 32]⟩ : ByteArray).data.toList
end Go.Proofs.YtmefjkfjpgblcaaGreatDoor

/- The reference's sets of scenes and the error of a heading. -/
namespace Go.Proofs.YtmefjkfjpgblcaaGreatDoor
set_option linter.unusedVariables false
open Go.RowKit

abbrev capsS : ByteArray := ⟨#[65, 66, 67, 68, 69, 70, 71, 72, 73, 74, 75, 76, 77, 78, 79, 80, 81, 82, 83, 84, 85, 86, 87, 88, 89, 90]⟩
abbrev setSS : ByteArray := ⟨#[65, 66, 67, 68, 69, 70, 71, 72, 73, 74, 75, 76, 77, 78, 79, 80, 81, 82, 83, 84, 85, 86, 87, 88, 89, 90, 48, 49, 50, 51, 52, 53, 54, 55, 56, 57, 32, 39, 46, 45, 47]⟩
theorem set_ascii : (setSS.data.toList.all fun b => decide (b.toNat < 128)) = true := by decide +kernel
theorem caps_ascii : (capsS.data.toList.all fun b => decide (b.toNat < 128)) = true := by decide +kernel
theorem set_size : setSS.size ≤ 1000 := by decide +kernel
theorem caps_size : capsS.size ≤ 1000 := by decide +kernel
theorem set_made (s : ByteArray) : allB (setSS.data.toList.contains ·) s = allB (proC (⟨#[39, 46, 45, 47]⟩ : ByteArray).data.toList) s := allB_congr (by decide +kernel) s
theorem cap_first {s : ByteArray} (h : 0 < s.size) : allB (capsS.data.toList.contains ·) (s.extract 0 1) = capB s[0] := by
  have hc : ∀ c, capsS.data.toList.contains c = capB c := fun c => congrFun cap_set c
  unfold allB
  rw [extract_list]
  rcases s with ⟨⟨l⟩⟩
  cases l with
  | nil => exact absurd h (by show ¬ 0 < 0; omega)
  | cons c r =>
    show (List.take 1 (c :: r)).all _ = capB c
    rw [show List.take 1 (c :: r) = [c] from rfl, List.all_cons, List.all_nil, Bool.and_true]
    exact hc c
theorem substr_c (s sub : ByteArray) (W : World) (hs : s.size ≤ 4000000000) (hm : MaxLaid W) : Calls Tryz.prog 231 #[.string s, .string sub] W fun e w' => e = .returned (.bool (Lib.contains s.data.toList sub.data.toList)) ∧ w' = W := by
  obtain ⟨⟨m, hm⟩, _⟩ := hm
  exact Tryz.strings_Contains s sub m W (by omega) hm
set_option maxRecDepth 100000 in
set_option maxHeartbeats 4000000 in
theorem SetOf_c (s : ByteArray) (w : World) (hs : s.size ≤ 1000000) (hsp : SpLaid w) (hm : MaxLaid w) : Calls Tryz.prog 258 #[.string s] w fun e w' => e = .returned (.bool (setB s)) ∧ Below w.heap.size w w' := by
  have HLO := Lib.hid (long_c s 1 60 w (by omega))
  have HPL := Lib.hid (plainR_c s w (by omega) hsp)
  have HM := Lib.hid hm
  have HM1 := Lib.hid (fun W => made_c s setSS W (by omega) set_size set_ascii)
  have HM2 := Lib.hid (fun W => made_c (s.extract 0 1) capsS W (by rw [ByteArray.size_extract]; omega) caps_size caps_ascii)
  clear hsp hm
  have HSB := Lib.hid (show setB s = (proB s 60 ⟨#[39, 46, 45, 47]⟩ && !Lib.contains s.data.toList (⟨#[32, 45, 32]⟩ : ByteArray).data.toList && !Lib.hasSuffix s.data.toList (⟨#[32, 45]⟩ : ByteArray).data.toList) from rfl)
  by_cases h0 : s.size = 0 ∨ 60 < s.size
  · have HR := Lib.hid (show setB s = false by rw [HSB.out, proB_no (by rcases h0 with h | h; exact .inl h; exact .inr (.inl h))]; rfl)
    have hlo : (decide ((1 : Int) ≤ s.size) && decide ((s.size : Int) ≤ 60)) = false := by
      rcases h0 with h | h
      · rw [decide_eq_false (by omega)]; rfl
      · rw [decide_eq_false (p := (s.size : Int) ≤ 60) (by omega)]; simp
    clear h0
    go_enter Tryz.func258, Tryz.ntmps258
    go_wp2_with (first | (go_at_call 71; with_reducible refine HLO.out.mono ?_; rintro e w' ⟨rfl, rfl⟩; rw [hlo]) | fail)
    go_ret
    exact ⟨ret_bool HR.out.symm, Below.refl _ _⟩
  have hlo : (decide ((1 : Int) ≤ s.size) && decide ((s.size : Int) ≤ 60)) = true := by rw [decide_eq_true (by omega), decide_eq_true (by omega)]; rfl
  have hp : 0 < s.size := by omega
  have hp1 : (1 : Int) ≤ s.size := by omega
  cases hpl : plainB s with
  | false =>
    have HR := Lib.hid (show setB s = false by rw [HSB.out, proB_no (.inr (.inr (.inr (.inl hpl))))]; rfl)
    go_enter Tryz.func258, Tryz.ntmps258
    go_wp2_with (first | (go_at_call 71; with_reducible refine HLO.out.mono ?_; rintro e w' ⟨rfl, rfl⟩; rw [hlo]) | (go_at_call 72; with_reducible refine HPL.out.mono ?_; rintro e w2 ⟨rfl, hb2⟩; rw [hpl]) | fail)
    go_ret
    exact ⟨ret_bool HR.out.symm, hb2⟩
  | true =>
  have hset := set_made s
  cases hpc : allB (proC (⟨#[39, 46, 45, 47]⟩ : ByteArray).data.toList) s with
  | false =>
    have HR := Lib.hid (show setB s = false by rw [HSB.out, proB_no (.inr (.inr (.inr (.inr hpc))))]; rfl)
    rw [hpc] at hset
    go_enter Tryz.func258, Tryz.ntmps258
    go_wp2_with (first | (go_at_call 71; with_reducible refine HLO.out.mono ?_; rintro e w' ⟨rfl, rfl⟩; rw [hlo]) | (go_at_call 72; with_reducible refine HPL.out.mono ?_; rintro e w2 ⟨rfl, hb2⟩; rw [hpl]) | (go_at_call 73; with_reducible refine (HM1.out w2).mono ?_; rintro e w3 ⟨rfl, hb3⟩; rw [hset]) | fail)
    go_ret
    exact ⟨ret_bool HR.out.symm, hb2.trans (hb3.mono hb2.size)⟩
  | true =>
  rw [hpc] at hset
  have hcf := cap_first hp
  have hex : (s.extract 0 1).size ≤ 1000000 := by rw [ByteArray.size_extract]; omega
  cases hcp : capB s[0] with
  | false =>
    have HR := Lib.hid (show setB s = false by rw [HSB.out, proB_no (.inr (.inr (.inl ⟨hp, hcp⟩)))]; rfl)
    rw [hcp] at hcf
    go_enter Tryz.func258, Tryz.ntmps258
    go_wp2_with (first | (go_at_call 71; with_reducible refine HLO.out.mono ?_; rintro e w' ⟨rfl, rfl⟩; rw [hlo]) | (go_at_call 72; with_reducible refine HPL.out.mono ?_; rintro e w2 ⟨rfl, hb2⟩; rw [hpl]) | (go_at_call 73; with_reducible refine (HM1.out w2).mono ?_; rintro e w3 ⟨rfl, hb3⟩; rw [hset]) | (go_at_call 73; with_reducible refine (HM2.out w3).mono ?_; rintro e w4 ⟨rfl, hb4⟩; rw [hcf]) | fail)
    go_ret
    exact ⟨ret_bool HR.out.symm, (hb2.trans (hb3.mono hb2.size)).trans (hb4.mono (hb2.trans (hb3.mono hb2.size)).size)⟩
  | true =>
  rw [hcp] at hcf
  have HR := Lib.hid (show setB s = (!Lib.contains s.data.toList (⟨#[32, 45, 32]⟩ : ByteArray).data.toList && !Lib.hasSuffix s.data.toList (⟨#[32, 45]⟩ : ByteArray).data.toList) by rw [HSB.out, proB_yes hp (by omega) hcp hpl hpc]; rfl)
  have HSU := Lib.hid (fun W => Tryz.strings_HasSuffix s ⟨#[32, 45]⟩ W (by omega))
  have HCO := Lib.hid (fun (W : World) (hb : Below w.heap.size w W) => substr_c s ⟨#[32, 45, 32]⟩ W (by omega) (max_below HM.out hb (Nat.le_refl _)))
  generalize Lib.contains s.data.toList (⟨#[32, 45, 32]⟩ : ByteArray).data.toList = p2 at *
  generalize Lib.hasSuffix s.data.toList (⟨#[32, 45]⟩ : ByteArray).data.toList = p3 at *
  clear hpc hcp HSB
  go_enter Tryz.func258, Tryz.ntmps258
  cases p2
  all_goals
    go_wp2_with (first | (go_at_call 71; with_reducible refine HLO.out.mono ?_; rintro e w' ⟨rfl, rfl⟩; rw [hlo]) | (go_at_call 72; with_reducible refine HPL.out.mono ?_; rintro e w2 ⟨rfl, hb2⟩; rw [hpl]) | (go_at_call 73; with_reducible refine (HM1.out w2).mono ?_; rintro e w3 ⟨rfl, hb3⟩; rw [hset]) | (go_at_call 73; with_reducible refine (HM2.out w3).mono ?_; rintro e w4 ⟨rfl, hb4⟩; rw [hcf]; have hb5 : Below w.heap.size w w4 := (hb2.trans (hb3.mono hb2.size)).trans (hb4.mono (hb2.trans (hb3.mono hb2.size)).size)) | (go_at_call 231; with_reducible refine (HCO.out w4 hb5).mono ?_; rintro e w' ⟨rfl, rfl⟩) | (go_at_call 147; with_reducible refine (HSU.out _).mono ?_; rintro e w' ⟨rfl, rfl⟩) | fail)
    go_ret
    exact ⟨ret_bool (by rw [HR.out]; simp), by assumption⟩
end Go.Proofs.YtmefjkfjpgblcaaGreatDoor

/- The reference's error of a heading. -/
namespace Go.Proofs.YtmefjkfjpgblcaaGreatDoor
set_option linter.unusedVariables false
open Go.RowKit

theorem sp_lt {w : World} (h : SpLaid w) : 0 < w.heap.size := by
  unfold SpLaid Lib.TabIs World.var? at h
  rw [show Tryz.prog.globalNamed "strings.asciiSpace" = some 0 by kernel_rfl] at h
  simp only [Option.bind_some] at h
  rcases Nat.lt_or_ge 0 w.heap.size with h' | h'
  · exact h'
  · simp [Array.getElem?_eq_none h'] at h
theorem sp_block {w w' : World} (h : SpLaid w) (hk : w'.heap[0]? = w.heap[0]?) : SpLaid w' := by
  unfold SpLaid Lib.TabIs World.var? at *
  rw [show Tryz.prog.globalNamed "strings.asciiSpace" = some 0 by kernel_rfl] at *
  simp only [Option.bind_some] at *
  rw [hk]; exact h
theorem sp_below {w w' : World} {B : Nat} (h : SpLaid w) (hb : Below B w w') (hB : w.heap.size ≤ B) : SpLaid w' := sp_block h (hb.block _ (by have := sp_lt h; omega))

def headE (x : Scene) : Int :=
  if ¬ x.no = ⟨#[]⟩ ∧ numB x.no = false then 5
  else if x.place < 1 ∨ 3 < x.place ∨ x.time < 1 ∨ 5 < x.time then 4
  else if setB x.set = false then 3 else 0
def HeP (x : Scene) (w : World) (e : Ending) (w' : World) : Prop := e = .returned (.int .i64 (headE x)) ∧ Below w.heap.size w w'
theorem HeP.mk {x : Scene} {q : Int} {w w' : World} (h : headE x = q) (hb : Below w.heap.size w w') : HeP x w (.returned (.int .i64 q)) w' := ⟨by rw [h], hb⟩
set_option maxRecDepth 100000 in
set_option maxHeartbeats 4000000 in
theorem headFault_c (x : Scene) (A : Option Addr) (n c : Nat) (w : World) (hn : x.no.size ≤ 1000000) (hs : x.set.size ≤ 1000000) (hsp : SpLaid w) (hm : MaxLaid w) :
    Calls Tryz.prog 188 #[.agg #[.string x.no, .int .i64 x.place, .string x.set, .int .i64 x.time, .slice A n c]] w (HeP x w) := by
  have HSP := Lib.hid hsp
  have HM := Lib.hid hm
  have HB := Lib.hid ((Below.refl w.heap.size w).alloc (Nat.le_refl _) (.cells #[.string x.no, .int .i64 x.place, .string x.set, .int .i64 x.time, .slice A n c] 119))
  have HSO := Lib.hid (fun (W : World) (hb : Below w.heap.size w W) => SetOf_c x.set W hs (sp_below HSP.out hb (Nat.le_refl _)) (max_below HM.out hb (Nat.le_refl _)))
  have HNU := Lib.hid (NumberOf_c x.no (w.alloc (.cells #[.string x.no, .int .i64 x.place, .string x.set, .int .i64 x.time, .slice A n c] 119)) (by omega))
  have HY := Lib.hid (fun (W : World) (hb : Below (w.alloc (.cells #[.string x.no, .int .i64 x.place, .string x.set, .int .i64 x.time, .slice A n c] 119)).heap.size (w.alloc (.cells #[.string x.no, .int .i64 x.place, .string x.set, .int .i64 x.time, .slice A n c] 119)) W) => show W.cell? ⟨w.heap.size, 0, none⟩ = some (.string x.no) ∧ W.cell? ⟨w.heap.size, 1, none⟩ = some (.int .i64 x.place) ∧ W.cell? ⟨w.heap.size, 2, none⟩ = some (.string x.set) ∧ W.cell? ⟨w.heap.size, 3, none⟩ = some (.int .i64 x.time) by
    obtain ⟨y, _⟩ := str_cells ((hb.block w.heap.size (by simp)).trans (heap_alloc_new w _))
    exact ⟨y 0, y 1, y 2, y 3⟩)
  clear hsp hm
  cases he : x.no.toList.isEmpty with
  | true =>
    have hno : x.no = ⟨#[]⟩ := (empty_iff x.no).1 he
    have HST := Lib.hid (show headE x = if x.place < 1 ∨ 3 < x.place ∨ x.time < 1 ∨ 5 < x.time then 4 else if setB x.set = false then 3 else 0 from if_neg (fun h => h.1 hno))
    clear hno
    go_enter Tryz.func188, Tryz.ntmps188
    by_cases q1 : x.place < 1
    · have HR := Lib.hid (HST.out.trans (if_pos (.inl q1)))
      go_wp2
      go_ret
      exact HeP.mk HR.out HB.out
    have g1 : 1 ≤ x.place := by omega
    by_cases q2 : 3 < x.place
    · have HR := Lib.hid (HST.out.trans (if_pos (.inr (.inl q2))))
      go_wp2
      go_ret
      exact HeP.mk HR.out HB.out
    have g2 : x.place ≤ 3 := by omega
    by_cases q3 : x.time < 1
    · have HR := Lib.hid (HST.out.trans (if_pos (.inr (.inr (.inl q3)))))
      go_wp2
      go_ret
      exact HeP.mk HR.out HB.out
    have g3 : 1 ≤ x.time := by omega
    by_cases q4 : 5 < x.time
    · have HR := Lib.hid (HST.out.trans (if_pos (.inr (.inr (.inr q4)))))
      go_wp2
      go_ret
      exact HeP.mk HR.out HB.out
    have g4 : x.time ≤ 5 := by omega
    have HS3 := Lib.hid (HST.out.trans (if_neg (by rintro (h | h | h | h) <;> omega)))
    clear q1 q2 q3 q4
    go_wp2_with fail
    with_reducible refine (HSO.out _ HB.out).mono ?_
    rintro e w5 ⟨rfl, hb5⟩
    have HB6 := Lib.hid ((HB.out).trans (hb5.mono (HB.out).size))
    clear hb5
    cases hsb : setB x.set with
    | false =>
      have HR := Lib.hid (HS3.out.trans (if_pos hsb))
      go_wp2
      go_ret
      exact HeP.mk HR.out HB6.out
    | true =>
      have HR := Lib.hid (HS3.out.trans (if_neg (by rw [hsb]; decide)))
      go_wp2
      go_ret
      exact HeP.mk HR.out HB6.out
  | false =>
    have hno : ¬ x.no = ⟨#[]⟩ := fun h => by rw [(empty_iff x.no).2 h] at he; cases he
    cases hnb : numB x.no with
    | false =>
      have HR := Lib.hid (show headE x = 5 from if_pos ⟨hno, hnb⟩)
      clear hno
      go_enter Tryz.func188, Tryz.ntmps188
      go_wp2_with (first | (go_at_call 235; with_reducible refine HNU.out.mono ?_; rintro e w2 ⟨rfl, hb2⟩; rw [hnb]) | fail)
      go_ret
      exact HeP.mk HR.out (HB.out.trans (hb2.mono (by simp)))
    | true =>
      have HST := Lib.hid (show headE x = if x.place < 1 ∨ 3 < x.place ∨ x.time < 1 ∨ 5 < x.time then 4 else if setB x.set = false then 3 else 0 from if_neg (by rintro ⟨_, h⟩; rw [hnb] at h; cases h))
      clear hno
      go_enter Tryz.func188, Tryz.ntmps188
      go_wp2_with fail
      with_reducible refine HNU.out.mono ?_
      rintro e w2 ⟨rfl, hb2⟩
      rw [hnb]
      obtain ⟨y0, y1, y2, y3⟩ := HY.out w2 hb2
      have hz2 : w.heap.size < w2.heap.size := Nat.lt_of_lt_of_le (by simp) hb2.size
      have HB2 := Lib.hid (HB.out.trans (hb2.mono (by simp)))
      clear hb2 HY HNU HB
      by_cases q1 : x.place < 1
      · have HR := Lib.hid (HST.out.trans (if_pos (.inl q1)))
        go_wp2
        go_ret
        exact HeP.mk HR.out HB2.out
      have g1 : 1 ≤ x.place := by omega
      by_cases q2 : 3 < x.place
      · have HR := Lib.hid (HST.out.trans (if_pos (.inr (.inl q2))))
        go_wp2
        go_ret
        exact HeP.mk HR.out HB2.out
      have g2 : x.place ≤ 3 := by omega
      by_cases q3 : x.time < 1
      · have HR := Lib.hid (HST.out.trans (if_pos (.inr (.inr (.inl q3)))))
        go_wp2
        go_ret
        exact HeP.mk HR.out HB2.out
      have g3 : 1 ≤ x.time := by omega
      by_cases q4 : 5 < x.time
      · have HR := Lib.hid (HST.out.trans (if_pos (.inr (.inr (.inr q4)))))
        go_wp2
        go_ret
        exact HeP.mk HR.out HB2.out
      have g4 : x.time ≤ 5 := by omega
      have HS3 := Lib.hid (HST.out.trans (if_neg (by rintro (h | h | h | h) <;> omega)))
      clear q1 q2 q3 q4
      go_wp2_with fail
      with_reducible refine (HSO.out _ HB2.out).mono ?_
      rintro e w5 ⟨rfl, hb5⟩
      have HB6 := Lib.hid ((HB2.out).trans (hb5.mono (HB2.out).size))
      clear hb5
      cases hsb : setB x.set with
      | false =>
        have HR := Lib.hid (HS3.out.trans (if_pos hsb))
        go_wp2
        go_ret
        exact HeP.mk HR.out HB6.out
      | true =>
        have HR := Lib.hid (HS3.out.trans (if_neg (by rw [hsb]; decide)))
        go_wp2
        go_ret
        exact HeP.mk HR.out HB6.out
end Go.Proofs.YtmefjkfjpgblcaaGreatDoor

/- The reference's error of a script in plain words, and that it is the program's. No program in sight. -/
namespace Go.Proofs.YtmefjkfjpgblcaaGreatDoor
set_option linter.unusedVariables false
open Go.RowKit

/-- The reference's error of a paragraph behind one of another kind. -/
def paraRE (before : Int) (p : Para) : Int :=
  if p.kind < 1 ∨ 5 < p.kind then 4
  else if p.text.size = 0 ∨ plainB p.text = false then 3
  else if (if p.kind = 3 then 200 else 2000) < p.text.size then 2
  else if p.kind = 2 ∧ nameB p.text = false then 5
  else if p.kind = 3 ∧ brB p.text = true then 3
  else if p.kind = 5 ∧ turnB p.text = false then 3
  else if p.kind = 3 ∧ ¬ before = 2 ∧ ¬ before = 4 then 7
  else if p.kind = 4 ∧ (before = 1 ∨ before = 5 ∨ before = 0) then 7
  else if (before = 2 ∨ before = 3) ∧ ¬ p.kind = 3 ∧ ¬ p.kind = 4 then 7 else 0
def parasRE : Int → List Para → Int
  | last, [] => if last = 2 ∨ last = 3 then 7 else 0
  | last, p :: r => if ¬ paraRE last p = 0 then paraRE last p else parasRE p.kind r
theorem paraE_kind {p : Para} (h : paraE p = 0) : 1 ≤ p.kind ∧ p.kind ≤ 5 := by
  unfold paraE at h
  split at h
  · omega
  · omega
theorem follows_iff {kind last : Int} (hk : 1 ≤ kind ∧ kind ≤ 5) (hl : 0 ≤ last ∧ last ≤ 5) : followsB kind last = false ↔ (kind = 3 ∧ ¬ last = 2 ∧ ¬ last = 4) ∨ (kind = 4 ∧ (last = 1 ∨ last = 5 ∨ last = 0)) ∨ ((last = 2 ∨ last = 3) ∧ ¬ kind = 3 ∧ ¬ kind = 4) := by
  obtain ⟨a, rfl⟩ := Int.eq_ofNat_of_zero_le (show 0 ≤ kind by omega)
  obtain ⟨b, rfl⟩ := Int.eq_ofNat_of_zero_le hl.1
  have ha : a = 1 ∨ a = 2 ∨ a = 3 ∨ a = 4 ∨ a = 5 := by omega
  have hb : b = 0 ∨ b = 1 ∨ b = 2 ∨ b = 3 ∨ b = 4 ∨ b = 5 := by omega
  rcases ha with rfl | rfl | rfl | rfl | rfl <;> rcases hb with rfl | rfl | rfl | rfl | rfl | rfl <;> decide
theorem paraRE_eq (p : Para) (last : Int) (hl : 0 ≤ last ∧ last ≤ 5) : paraRE last p = if ¬ paraE p = 0 then paraE p else if followsB p.kind last = false then 7 else 0 := by
  by_cases h0 : paraE p = 0
  · rw [if_neg (by simp [h0])]
    have hk := paraE_kind h0
    have hf := follows_iff hk hl
    unfold paraE at h0
    unfold paraRE
    by_cases c1 : p.kind < 1 ∨ 5 < p.kind
    · omega
    rw [if_neg c1] at h0 ⊢
    by_cases c2 : p.text.size = 0 ∨ plainB p.text = false
    · rw [if_pos c2] at h0; omega
    rw [if_neg c2] at h0 ⊢
    by_cases c3 : 2000 < p.text.size ∨ (p.kind = 3 ∧ 200 < p.text.size)
    · rw [if_pos c3] at h0; omega
    rw [if_neg c3] at h0
    rw [if_neg (by split <;> omega)]
    by_cases c4 : p.kind = 2 ∧ nameB p.text = false
    · rw [if_pos c4] at h0; omega
    rw [if_neg c4] at h0 ⊢
    by_cases c5 : p.kind = 3 ∧ brB p.text = true
    · rw [if_pos c5] at h0; omega
    rw [if_neg c5] at h0 ⊢
    by_cases c6 : p.kind = 5 ∧ turnB p.text = false
    · rw [if_pos c6] at h0; omega
    rw [if_neg c6]
    by_cases d1 : p.kind = 3 ∧ ¬ last = 2 ∧ ¬ last = 4
    · rw [if_pos d1, if_pos (hf.2 (.inl d1))]
    rw [if_neg d1]
    by_cases d2 : p.kind = 4 ∧ (last = 1 ∨ last = 5 ∨ last = 0)
    · rw [if_pos d2, if_pos (hf.2 (.inr (.inl d2)))]
    rw [if_neg d2]
    by_cases d3 : (last = 2 ∨ last = 3) ∧ ¬ p.kind = 3 ∧ ¬ p.kind = 4
    · rw [if_pos d3, if_pos (hf.2 (.inr (.inr d3)))]
    · rw [if_neg d3, if_neg (fun h => by
        rcases hf.1 h with h | h | h
        · exact d1 h
        · exact d2 h
        · exact d3 h)]
  · rw [if_pos h0]
    unfold paraE at h0 ⊢
    unfold paraRE
    by_cases c1 : p.kind < 1 ∨ 5 < p.kind
    · rw [if_pos c1, if_pos c1]
    rw [if_neg c1] at h0 ⊢
    rw [if_neg c1]
    by_cases c2 : p.text.size = 0 ∨ plainB p.text = false
    · rw [if_pos c2, if_pos c2]
    rw [if_neg c2] at h0 ⊢
    rw [if_neg c2]
    by_cases c3 : 2000 < p.text.size ∨ (p.kind = 3 ∧ 200 < p.text.size)
    · rw [if_pos c3, if_pos (by split <;> omega)]
    rw [if_neg c3] at h0 ⊢
    rw [if_neg (by split <;> omega)]
    by_cases c4 : p.kind = 2 ∧ nameB p.text = false
    · rw [if_pos c4, if_pos c4]
    rw [if_neg c4] at h0 ⊢
    rw [if_neg c4]
    by_cases c5 : p.kind = 3 ∧ brB p.text = true
    · rw [if_pos c5, if_pos c5]
    rw [if_neg c5] at h0 ⊢
    rw [if_neg c5]
    by_cases c6 : p.kind = 5 ∧ turnB p.text = false
    · rw [if_pos c6, if_pos c6]
    · rw [if_neg c6] at h0
      exact absurd rfl h0
theorem parasRE_eq (l : List Para) : ∀ last : Int, 0 ≤ last ∧ last ≤ 5 → parasRE last l = parasE last l := by
  induction l with
  | nil => intro last _; rfl
  | cons p r ih =>
    intro last hl
    rw [parasRE, parasE, paraRE_eq p last hl]
    by_cases h0 : paraE p = 0
    · have hk := paraE_kind h0
      rw [if_neg (show ¬ ¬ paraE p = 0 from fun h => h h0), if_neg (show ¬ ¬ paraE p = 0 from fun h => h h0)]
      by_cases hf : followsB p.kind last = false
      · rw [if_pos hf, if_pos hf, if_pos (by decide)]
      · rw [if_neg hf, if_neg hf, if_neg (by decide)]
        exact ih p.kind (by omega)
    · rw [if_pos h0, if_pos h0, if_pos h0]
/-- The reference's error of scene k; the numbers of those before it. -/
def sceneRE (k : Nat) (seen : List ByteArray) (x : Scene) : Int :=
  if headE x = 5 then 5
  else if ¬ x.no = ⟨#[]⟩ ∧ (seen.any fun y => decide (y = x.no)) = true then 6
  else if headE x = 4 then 4
  else if k = 0 ∧ x.time = 5 then 7
  else if ¬ headE x = 0 then headE x
  else parasRE 0 x.paras
theorem sceneRE_eq (k : Nat) (seen : List ByteArray) (x : Scene) (r : List Scene) : (if ¬ sceneRE k seen x = 0 then sceneRE k seen x else scenesE (k + 1) (x.no :: seen) r) = scenesE k seen (x :: r) := by
  rw [scenesE]
  unfold sceneRE headE sceneE
  rw [parasRE_eq _ 0 (by omega)]
  by_cases c1 : ¬ x.no = ⟨#[]⟩ ∧ numB x.no = false
  · rw [if_pos c1, if_pos c1, if_pos rfl, if_pos (by decide)]
  · rw [if_neg c1, if_neg c1]
    by_cases c3 : x.place < 1 ∨ 3 < x.place ∨ x.time < 1 ∨ 5 < x.time
    · simp only [if_pos c3]
      by_cases c2 : ¬ x.no = ⟨#[]⟩ ∧ (seen.any fun y => decide (y = x.no)) = true
      · simp only [if_pos c2]; simp
      · simp only [if_neg c2]; simp
    · simp only [if_neg c3]
      by_cases c2 : ¬ x.no = ⟨#[]⟩ ∧ (seen.any fun y => decide (y = x.no)) = true
      · simp only [if_pos c2]
        by_cases c4 : setB x.set = false
        · simp only [if_pos c4]; simp
        · simp only [if_neg c4]; simp
      · simp only [if_neg c2]
        by_cases c5 : k = 0 ∧ x.time = 5
        · simp only [if_pos c5]
          by_cases c4 : setB x.set = false
          · simp only [if_pos c4]; simp
          · simp only [if_neg c4]; simp
        · simp only [if_neg c5]
          by_cases c4 : setB x.set = false
          · simp only [if_pos c4]; simp
          · simp only [if_neg c4]; simp
end Go.Proofs.YtmefjkfjpgblcaaGreatDoor

/- What the reader of scripts keeps, and what a right script stays within. No program in sight. -/
namespace Go.Proofs.YtmefjkfjpgblcaaGreatDoor
set_option linter.unusedVariables false
open Go.RowKit

theorem mem_mod {α : Type} {l : List α} {f : α → α} {k : Nat} {y : α} (h : y ∈ l.modify k f) : y ∈ l ∨ ∃ x ∈ l, y = f x := by
  obtain ⟨i, hi⟩ := List.mem_iff_getElem?.1 h
  rw [List.getElem?_modify] at hi
  cases hli : l[i]? with
  | none => rw [hli] at hi; simp at hi
  | some x =>
    rw [hli] at hi
    have hm : x ∈ l := List.mem_iff_getElem?.2 ⟨i, hli⟩
    simp at hi
    by_cases e : k = i
    · rw [if_pos e] at hi; exact .inr ⟨x, hm, hi.symm⟩
    · rw [if_neg e] at hi; exact .inl (hi ▸ hm)
end Go.Proofs.YtmefjkfjpgblcaaGreatDoor

/- The error of takes of a script, in plain words. No program in sight. -/
namespace Go.Proofs.YtmefjkfjpgblcaaGreatDoor
set_option linter.unusedVariables false
open Go.RowKit

/-- A cover behind another one (or none). -/
def prevBad (p : Option Cov) (c : Cov) : Bool := match p with
  | none => false
  | some q => decide (c.para ≤ q.para) || decide (c.tin < q.tout)
def covOne (n : Nat) (a b : Int) (p : Option Cov) (c : Cov) : Int := if c.para < 0 ∨ (n : Int) ≤ c.para then 8 else if prevBad p c = true then 7 else if c.tin < a ∨ c.tout ≤ c.tin ∨ b < c.tout then 1 else 0
def covsE (n : Nat) (a b : Int) : Option Cov → List Cov → Int
  | _, [] => 0
  | p, c :: r => if ¬ covOne n a b p c = 0 then covOne n a b p c else covsE n a b (some c) r
def prevOf (l : List Cov) (k : Nat) : Option Cov := if k = 0 then none else l[k - 1]?
theorem covsE_step (n : Nat) (a b : Int) (l : List Cov) (k : Nat) (hk : k < l.length) : covsE n a b (prevOf l k) (l.drop k) = if ¬ covOne n a b (prevOf l k) l[k] = 0 then covOne n a b (prevOf l k) l[k] else covsE n a b (prevOf l (k + 1)) (l.drop (k + 1)) := by
  rw [List.drop_eq_getElem_cons hk, covsE, show prevOf l (k + 1) = some l[k] by unfold prevOf; rw [if_neg (by omega)]; simp [hk]]
theorem covsE_end (n : Nat) (a b : Int) (l : List Cov) (k : Nat) (hk : ¬ k < l.length) : covsE n a b (prevOf l k) (l.drop k) = 0 := by
  rw [List.drop_eq_nil_of_le (by omega), covsE]
/-- A take of the same name; a take that takes its roll. -/
def sameT (t q : Tk) : Bool := decide (q.scene = t.scene) && decide (q.setup = t.setup) && decide (q.number = t.number)
def busyT (t q : Tk) : Bool := decide (q.roll = t.roll) && decide (q.tin < t.tout) && decide (t.tin < q.tout)
def scnIdx (sc : List Scene) (s : ByteArray) : Option Nat := sc.findIdx? fun x => decide (x.no = s)
def tcE (sc : List Scene) (rl : List Roll) (pre : List Tk) (t : Tk) : Int :=
  if scnIdx sc t.scene = none then 8
  else if setupB t.setup = false then 5
  else if t.number < 1 ∨ 99 < t.number then 1
  else if pre.any (sameT t) = true then 6
  else if rollHas rl t.roll = false ∨ (¬ t.sound = ⟨#[]⟩ ∧ rollHas rl t.sound = false) then 8
  else if withinB (rollGet rl t.roll) t.tin t.tout = false then 1
  else if pre.any (busyT t) = true then 12
  else covsE (((scnIdx sc t.scene).bind fun k => (sc[k]?).map fun x => x.paras.length).getD 0) t.tin t.tout none t.covers
def tcsE (sc : List Scene) (rl : List Roll) : List Tk → List Tk → Int
  | _, [] => 0
  | pre, t :: r => if ¬ tcE sc rl pre t = 0 then tcE sc rl pre t else tcsE sc rl (pre ++ [t]) r
theorem tcsE_step (sc : List Scene) (rl : List Roll) (l : List Tk) (k : Nat) (hk : k < l.length) : tcsE sc rl (l.take k) (l.drop k) = if ¬ tcE sc rl (l.take k) l[k] = 0 then tcE sc rl (l.take k) l[k] else tcsE sc rl (l.take (k + 1)) (l.drop (k + 1)) := by
  rw [List.drop_eq_getElem_cons hk, tcsE, List.take_succ_eq_append_getElem hk]
theorem tcsE_end (sc : List Scene) (rl : List Roll) (l : List Tk) (k : Nat) (hk : ¬ k < l.length) : tcsE sc rl (l.take k) (l.drop k) = 0 := by
  rw [List.drop_eq_nil_of_le (by omega), tcsE]
/-- The error of a script whose scenes must have numbers. -/
def stE (x : Script) : Int := if ¬ chkE x = 0 then chkE x else if (x.scenes.any fun y => decide (y.no = ⟨#[]⟩)) = true then 10 else 0
def tksChk (x : Script) (rl : List Roll) (tl : List Tk) : Int :=
  if ¬ stE x = 0 then stE x else if ¬ rollsFault rl = 0 then rollsFault rl else if 3000 < tl.length then 2 else tcsE x.scenes rl [] tl
/-- Numbers of a right script whose scenes have some are told apart. -/
theorem scenesE_dis : ∀ (l : List Scene) (k : Nat) (seen : List ByteArray), scenesE k seen l = 0 → (∀ x ∈ l, ¬ x.no = ⟨#[]⟩) → ∀ (i : Nat) (hi : i < l.length), (∀ y ∈ seen, ¬ y = l[i].no) ∧ ∀ (j : Nat) (hj : j < i), ¬ (l[j]'(by omega)).no = l[i].no
  | [], _, _, _, _, i, hi => absurd hi (by simp)
  | x :: r, k, seen, h, hn, i, hi => by
    have hx := hn x (by simp)
    rw [scenesE] at h
    by_cases c1 : ¬ x.no = ⟨#[]⟩ ∧ numB x.no = false
    · rw [if_pos c1] at h; exact absurd h (by decide)
    rw [if_neg c1] at h
    by_cases c2 : ¬ x.no = ⟨#[]⟩ ∧ (seen.any fun y => decide (y = x.no)) = true
    · rw [if_pos c2] at h; exact absurd h (by decide)
    rw [if_neg c2] at h
    by_cases c3 : x.place < 1 ∨ 3 < x.place ∨ x.time < 1 ∨ 5 < x.time
    · rw [if_pos c3] at h; exact absurd h (by decide)
    rw [if_neg c3] at h
    by_cases c4 : k = 0 ∧ x.time = 5
    · rw [if_pos c4] at h; exact absurd h (by decide)
    rw [if_neg c4] at h
    by_cases c5 : ¬ sceneE x = 0
    · rw [if_pos c5] at h; exact absurd h c5
    rw [if_neg c5] at h
    have hsn : ∀ y ∈ seen, ¬ y = x.no := fun y hy e => c2 ⟨hx, List.any_eq_true.2 ⟨y, hy, decide_eq_true e⟩⟩
    have ih := scenesE_dis r (k + 1) (x.no :: seen) h (fun y hy => hn y (List.mem_cons_of_mem _ hy))
    cases i with
    | zero => exact ⟨hsn, fun j hj => absurd hj (by omega)⟩
    | succ i =>
      obtain ⟨h1, h2⟩ := ih i (by simpa using hi)
      refine ⟨fun y hy => h1 y (List.mem_cons_of_mem _ hy), fun j hj => ?_⟩
      cases j with
      | zero => exact h1 x.no (by simp)
      | succ j => exact h2 j (by omega)
theorem stE_dis {x : Script} (h : stE x = 0) : (∀ y ∈ x.scenes, ¬ y.no = ⟨#[]⟩) ∧ ∀ (i : Nat) (hi : i < x.scenes.length) (j : Nat) (hj : j < i), ¬ (x.scenes[j]'(by omega)).no = x.scenes[i].no := by
  unfold stE at h
  by_cases c1 : ¬ chkE x = 0
  · rw [if_pos c1] at h; exact absurd h c1
  rw [if_neg c1] at h
  by_cases c2 : (x.scenes.any fun y => decide (y.no = ⟨#[]⟩)) = true
  · rw [if_pos c2] at h; exact absurd h (by decide)
  have hn : ∀ y ∈ x.scenes, ¬ y.no = ⟨#[]⟩ := fun y hy e => c2 (List.any_eq_true.2 ⟨y, hy, decide_eq_true e⟩)
  refine ⟨hn, fun i hi j hj => ?_⟩
  have h3 : chkE x = 0 := Classical.byContradiction c1
  unfold chkE at h3
  split at h3
  · omega
  · split at h3
    · omega
    · exact (scenesE_dis x.scenes 0 [] h3 hn i hi).2 j hj
end Go.Proofs.YtmefjkfjpgblcaaGreatDoor

/- How paragraphs are covered, in plain words. No program in sight. -/
namespace Go.Proofs.YtmefjkfjpgblcaaGreatDoor
set_option linter.unusedVariables false
open Go.RowKit

/-- The paragraphs that need takes. -/
def needK (p : Para) : Bool := decide (p.kind = 1) || decide (p.kind = 4)
def needTo (ps : List Para) (k : Nat) : List Int := ((List.range k).filter fun i => ((ps[i]?).map needK).getD false).map fun i : Nat => (i : Int)
def needL (ps : List Para) : List Int := needTo ps ps.length
theorem needTo_next (ps : List Para) (k : Nat) (hk : k < ps.length) : needTo ps (k + 1) = needTo ps k ++ (if needK ps[k] = true then [(k : Int)] else []) := by
  unfold needTo
  rw [List.range_succ, List.filter_append, List.map_append]
  congr 1
  cases h : needK ps[k] <;> simp [List.getElem?_eq_getElem hk, h]
theorem needTo_len (ps : List Para) (k : Nat) : (needTo ps k).length ≤ k := by
  unfold needTo
  rw [List.length_map]
  exact Nat.le_trans (List.length_filter_le _ _) (by simp)
/-- A part: a cover and the place of its take. -/
abbrev Prt := Nat × Cov
def cvOf (sc : List Scene) (i : Nat) (q : Int) (a : Nat) (t : Tk) (j : Nat) : List Prt := if scnIdx sc t.scene = some i then ((t.covers.take j).filter fun c => decide (c.para = q)).map fun c => (a, c) else []
def cvTk (sc : List Scene) (i : Nat) (q : Int) (tl : List Tk) (a : Nat) : List Prt := match tl[a]? with
  | some t => cvOf sc i q a t t.covers.length
  | none => []
def cvsTo (sc : List Scene) (tl : List Tk) (k : Nat) (i : Nat) (q : Int) : List Prt := (List.range k).flatMap (cvTk sc i q tl)
def cvs (sc : List Scene) (tl : List Tk) : Nat → Int → List Prt := cvsTo sc tl tl.length
def cvsIn (sc : List Scene) (tl : List Tk) (k j : Nat) (t : Tk) (i : Nat) (q : Int) : List Prt := cvsTo sc tl k i q ++ cvOf sc i q k t j
theorem cvsTo_0 (sc : List Scene) (tl : List Tk) : cvsTo sc tl 0 = fun _ _ => [] := rfl
theorem cvsIn_0 (sc : List Scene) (tl : List Tk) (k : Nat) (t : Tk) : cvsIn sc tl k 0 t = cvsTo sc tl k := by
  funext i q
  unfold cvsIn cvOf
  split <;> simp
theorem cvsTo_next (sc : List Scene) (tl : List Tk) (k : Nat) (hk : k < tl.length) : cvsTo sc tl (k + 1) = cvsIn sc tl k tl[k].covers.length tl[k] := by
  funext i q
  unfold cvsTo cvsIn cvsTo
  rw [List.range_succ, List.flatMap_append]
  simp [cvTk, List.getElem?_eq_getElem hk]
theorem cvsIn_next (sc : List Scene) (tl : List Tk) (k j : Nat) (t : Tk) (hj : j < t.covers.length) {i : Nat} (hi : scnIdx sc t.scene = some i) :
    cvsIn sc tl k (j + 1) t = fun i' q => if i' = i ∧ q = t.covers[j].para then cvsIn sc tl k j t i t.covers[j].para ++ [(k, t.covers[j])] else cvsIn sc tl k j t i' q := by
  funext i' q
  unfold cvsIn cvOf
  rw [hi]
  by_cases h1 : i' = i
  · subst h1
    simp only [if_true, true_and]
    rw [List.take_succ_eq_append_getElem hj, List.filter_append, List.map_append]
    by_cases h2 : q = t.covers[j].para
    · subst h2
      rw [if_pos rfl]
      simp
    · rw [if_neg h2]
      have : ¬ t.covers[j].para = q := fun e => h2 e.symm
      simp [this]
  · have : ¬ some i = some i' := fun e => h1 (Option.some.inj e).symm
    rw [if_neg (show ¬ (i' = i ∧ q = t.covers[j].para) from fun h => h1 h.1)]
    simp only [if_neg this]
theorem cvOf_len (sc : List Scene) (i : Nat) (q : Int) (a : Nat) (t : Tk) (j : Nat) : (cvOf sc i q a t j).length ≤ t.covers.length := by
  unfold cvOf
  split
  · rw [List.length_map]
    refine Nat.le_trans (List.length_filter_le _ _) ?_
    rw [List.length_take]; omega
  · simp
theorem cvsTo_len (sc : List Scene) (tl : List Tk) (C : Nat) (hC : ∀ t ∈ tl, t.covers.length ≤ C) (i : Nat) (q : Int) : ∀ k, (cvsTo sc tl k i q).length ≤ k * C
  | 0 => by simp [cvsTo]
  | k + 1 => by
    have ih := cvsTo_len sc tl C hC i q k
    unfold cvsTo at ih ⊢
    rw [List.range_succ, List.flatMap_append, List.length_append, Nat.add_mul]
    have : ([k].flatMap (cvTk sc i q tl)).length ≤ 1 * C := by
      simp only [List.flatMap_cons, List.flatMap_nil, List.append_nil, Nat.one_mul]
      unfold cvTk
      split
      · rename_i t ht
        exact Nat.le_trans (cvOf_len _ _ _ _ _ _) (hC t (List.mem_of_getElem? ht))
      · simp
    omega
theorem cvsTo_mem {sc : List Scene} {tl : List Tk} {i : Nat} {q : Int} {k : Nat} {p : Prt} (h : p ∈ cvsTo sc tl k i q) : ∃ ha : p.1 < tl.length, p.1 < k ∧ p.2 ∈ tl[p.1].covers ∧ p.2.para = q ∧ scnIdx sc tl[p.1].scene = some i := by
  unfold cvsTo at h
  obtain ⟨a, ha, hp⟩ := List.mem_flatMap.1 h
  have hak := List.mem_range.1 ha
  unfold cvTk at hp
  split at hp
  · rename_i t ht
    obtain ⟨hlt, rfl⟩ := List.getElem?_eq_some_iff.1 ht
    unfold cvOf at hp
    split at hp
    · rename_i hs
      obtain ⟨c, hc, rfl⟩ := List.mem_map.1 hp
      obtain ⟨hc1, hc2⟩ := List.mem_filter.1 hc
      exact ⟨hlt, hak, List.mem_of_mem_take hc1, of_decide_eq_true hc2, hs⟩
    · cases hp
  · cases hp
/-- The good ones. -/
def gdP (tl : List Tk) (p : Prt) : Bool := ((tl[p.1]?).map (·.good)).getD false
def gdL (tl : List Tk) (l : List Prt) : List Prt := l.filter (gdP tl)
/-- How a paragraph is covered. -/
abbrev Cvd := Int × Int × Int × Int
def cvdOf (sc : List Scene) (tl : List Tk) (i : Nat) (q : Int) : Cvd := (q, ((cvs sc tl i q).length : Int), ((gdL tl (cvs sc tl i q)).length : Int), ((((gdL tl (cvs sc tl i q)).filter fun p => p.2.on).length : Nat) : Int))
def coverL (sc : List Scene) (tl : List Tk) (i : Nat) : List Cvd := (needL (((sc[i]?).map (·.paras)).getD [])).map (cvdOf sc tl i)
/-- The paragraphs without a good take. -/
def missI (sc : List Scene) (tl : List Tk) (i : Nat) : List (Int × Int × Int) := ((needL (((sc[i]?).map (·.paras)).getD [])).filter fun q => decide ((gdL tl (cvs sc tl i q)).length = 0)).map fun q => ((i : Int), q, 0)
def missTo (sc : List Scene) (tl : List Tk) (k : Nat) : List (Int × Int × Int) := (List.range k).flatMap (missI sc tl)
def missL (sc : List Scene) (tl : List Tk) : List (Int × Int × Int) := missTo sc tl sc.length
/-- How much of the rolls is in takes. -/
abbrev Usg := ByteArray × Int × Int × Int
def usedTo (tl : List Tk) (nm : ByteArray) (k : Nat) : Int := (((tl.take k).filter fun t => decide (t.roll = nm)).map fun t => t.tout - t.tin).sum
def goodTo (tl : List Tk) (nm : ByteArray) (k : Nat) : Int := (((tl.take k).filter fun t => decide (t.roll = nm) && t.good).map fun t => t.tout - t.tin).sum
def usgOf (tl : List Tk) (r : Roll) : Usg := (r.name, r.long, usedTo tl r.name tl.length, goodTo tl r.name tl.length)
def usgL (rl : List Roll) (tl : List Tk) : List Usg := rl.map (usgOf tl)
/-- The reference looks for one cover in each take. -/
def cov1 (t : Tk) (q : Int) : Option Cov := t.covers.find? fun c => decide (c.para = q)
def refC (sc : List Scene) (i : Nat) (q : Int) (t : Tk) : Bool := (cov1 t q).isSome && decide (t.scene = ((sc[i]?).map (·.no)).getD ⟨#[]⟩)
def refTk (tl : List Tk) (sc : List Scene) (i : Nat) (q : Int) (k : Nat) : Cvd := (q, ((((tl.take k).filter (refC sc i q)).length : Nat) : Int), ((((tl.take k).filter fun t => refC sc i q t && t.good).length : Nat) : Int), ((((tl.take k).filter fun t => refC sc i q t && (t.good && ((cov1 t q).map (·.on)).getD false)).length : Nat) : Int))
theorem refTk_next (tl : List Tk) (sc : List Scene) (i : Nat) (q : Int) (k : Nat) (hk : k < tl.length) : refTk tl sc i q (k + 1) =
    (q, (refTk tl sc i q k).2.1 + (if refC sc i q tl[k] = true then 1 else 0), (refTk tl sc i q k).2.2.1 + (if (refC sc i q tl[k] && tl[k].good) = true then 1 else 0), (refTk tl sc i q k).2.2.2 + (if (refC sc i q tl[k] && (tl[k].good && ((cov1 tl[k] q).map (·.on)).getD false)) = true then 1 else 0)) := by
  unfold refTk
  rw [List.take_succ_eq_append_getElem hk]
  simp only [List.filter_append, List.length_append]
  have f1 : ∀ (p : Tk → Bool) (t : Tk), (([t].filter p).length : Int) = if p t = true then 1 else 0 := fun p t => by
    by_cases h : p t = true <;> simp [h]
  simp only [Int.natCast_add, f1]
/-- In right takes each paragraph has one cover at most. -/
theorem covsE_one {n : Nat} {a b : Int} : ∀ (l : List Cov) (p : Option Cov), covsE n a b p l = 0 → (∀ c ∈ l, ∀ q, p = some q → q.para < c.para) ∧ ∀ q : Int, (l.filter fun c => decide (c.para = q)) = ((l.find? fun c => decide (c.para = q)).map fun c => [c]).getD []
  | [], p, _ => ⟨fun c hc => (by cases hc), fun q => rfl⟩
  | c :: r, p, h => by
    rw [covsE] at h
    by_cases h0 : covOne n a b p c = 0
    · rw [if_neg (fun k => k h0)] at h
      obtain ⟨i1, i2⟩ := covsE_one r (some c) h
      have hp : ∀ q, p = some q → q.para < c.para := fun q e => by
        subst e
        unfold covOne at h0
        split at h0
        · exact absurd h0 (by decide)
        · split at h0
          · exact absurd h0 (by decide)
          · rename_i hb
            have hb' : prevBad (some q) c = false := by simpa using hb
            have hb2 : (decide (c.para ≤ q.para) || decide (c.tin < q.tout)) = false := hb'
            simp at hb2
            omega
      refine ⟨fun c' hc' q e => ?_, fun q => ?_⟩
      · rcases List.mem_cons.1 hc' with rfl | hc'
        · exact hp q e
        · have h1 := hp q e
          have h2 := i1 c' hc' c rfl
          omega
      · by_cases hq : c.para = q
        · rw [List.filter_cons_of_pos (by simpa using hq), List.find?_cons_of_pos (by simpa using hq)]
          have : (r.filter fun c => decide (c.para = q)) = [] := by
            rw [List.filter_eq_nil_iff]
            intro c' hc'
            have := i1 c' hc' c rfl
            simp; omega
          rw [this]; rfl
        · rw [List.filter_cons_of_neg (by simpa using hq), List.find?_cons_of_neg (by simpa using hq)]
          exact i2 q
    · rw [if_pos h0] at h
      exact absurd h h0
end Go.Proofs.YtmefjkfjpgblcaaGreatDoor

/- The reference's way of counting covers is the program's. No program in sight. -/
namespace Go.Proofs.YtmefjkfjpgblcaaGreatDoor
set_option linter.unusedVariables false
open Go.RowKit

theorem tcsE_all (sc : List Scene) (rl : List Roll) : ∀ (l pre : List Tk), tcsE sc rl pre l = 0 → ∀ t ∈ l, ∃ pre', tcE sc rl pre' t = 0
  | [], _, _ => fun t ht => by cases ht
  | x :: r, pre, h => by
    rw [tcsE] at h
    by_cases h0 : tcE sc rl pre x = 0
    · rw [if_neg (fun k => k h0)] at h
      intro t ht
      rcases List.mem_cons.1 ht with rfl | ht
      · exact ⟨pre, h0⟩
      · exact tcsE_all sc rl r (pre ++ [x]) h t ht
    · rw [if_pos h0] at h; exact absurd h h0
theorem tcE_ok {sc : List Scene} {rl : List Roll} {pre : List Tk} {t : Tk} (h : tcE sc rl pre t = 0) : ∃ i, scnIdx sc t.scene = some i ∧ ∃ n, covsE n t.tin t.tout none t.covers = 0 := by
  unfold tcE at h
  split at h
  · exact absurd h (by decide)
  rename_i hs
  obtain ⟨i, hi⟩ := Option.ne_none_iff_exists'.1 hs
  refine ⟨i, hi, ?_⟩
  split at h
  · exact absurd h (by decide)
  split at h
  · exact absurd h (by decide)
  split at h
  · exact absurd h (by decide)
  split at h
  · exact absurd h (by decide)
  split at h
  · exact absurd h (by decide)
  split at h
  · exact absurd h (by decide)
  exact ⟨_, h⟩
/-- What the check of a right script and right takes says of each take. -/
structure CvOk (sc : List Scene) (tl : List Tk) : Prop where
  dis : ∀ (i : Nat) (hi : i < sc.length) (j : Nat) (hj : j < i), ¬ (sc[j]'(by omega)).no = sc[i].no
  scn : ∀ t ∈ tl, ∃ i, scnIdx sc t.scene = some i
  one : ∀ t ∈ tl, ∀ q : Int, (t.covers.filter fun c => decide (c.para = q)) = ((cov1 t q).map fun c => [c]).getD []
theorem tksChk_ok {x : Script} {rl : List Roll} {tl : List Tk} (h : tksChk x rl tl = 0) : stE x = 0 ∧ rollsFault rl = 0 ∧ tl.length ≤ 3000 ∧ tcsE x.scenes rl [] tl = 0 := by
  unfold tksChk at h
  split at h
  · rename_i h1; exact absurd h h1
  split at h
  · rename_i h1; exact absurd h h1
  split at h
  · exact absurd h (by decide)
  rename_i a b c
  exact ⟨by omega, by omega, by omega, h⟩
theorem CvOk.of {x : Script} {rl : List Roll} {tl : List Tk} (h : tksChk x rl tl = 0) : CvOk x.scenes tl := by
  obtain ⟨h1, _, _, h4⟩ := tksChk_ok h
  refine ⟨(stE_dis h1).2, fun t ht => ?_, fun t ht q => ?_⟩
  · obtain ⟨pre, hp⟩ := tcsE_all _ _ _ _ h4 t ht
    obtain ⟨i, hi, _⟩ := tcE_ok hp
    exact ⟨i, hi⟩
  · obtain ⟨pre, hp⟩ := tcsE_all _ _ _ _ h4 t ht
    obtain ⟨i, _, n, hn⟩ := tcE_ok hp
    exact (covsE_one _ _ hn).2 q
theorem scnIdx_iff {sc : List Scene} (hd : ∀ (i : Nat) (hi : i < sc.length) (j : Nat) (hj : j < i), ¬ (sc[j]'(by omega)).no = sc[i].no) {i : Nat} (hi : i < sc.length) (s : ByteArray) : scnIdx sc s = some i ↔ s = sc[i].no := by
  unfold scnIdx
  rw [List.findIdx?_eq_some_iff_getElem]
  constructor
  · rintro ⟨h, h1, _⟩
    exact (of_decide_eq_true h1).symm
  · intro e
    refine ⟨hi, decide_eq_true e.symm, fun j hj => ?_⟩
    have := hd i hi j hj
    simp
    rw [e]
    exact this
theorem cvTk_ref {sc : List Scene} {tl : List Tk} (H : CvOk sc tl) {i : Nat} (hi : i < sc.length) (q : Int) {a : Nat} (ha : a < tl.length) : cvTk sc i q tl a = if refC sc i q tl[a] = true then ((cov1 tl[a] q).map fun c => [(a, c)]).getD [] else [] := by
  unfold cvTk
  rw [List.getElem?_eq_getElem ha]
  dsimp only
  unfold cvOf
  rw [List.take_length, H.one _ (List.getElem_mem ha) q]
  unfold refC
  rw [List.getElem?_eq_getElem hi]
  simp only [Option.map_some, Option.getD_some]
  by_cases hs : scnIdx sc tl[a].scene = some i
  · have he := (scnIdx_iff H.dis hi _).1 hs
    rw [if_pos hs]
    simp only [decide_eq_true he, Bool.and_true]
    cases hc : cov1 tl[a] q with
    | none => simp
    | some c => simp
  · have he : ¬ tl[a].scene = sc[i].no := fun e => hs ((scnIdx_iff H.dis hi _).2 e)
    rw [if_neg hs]
    simp only [decide_eq_false he, Bool.and_false]
    simp
theorem refTk_eq {sc : List Scene} {tl : List Tk} (H : CvOk sc tl) {i : Nat} (hi : i < sc.length) (q : Int) : ∀ k, k ≤ tl.length →
    refTk tl sc i q k = (q, ((cvsTo sc tl k i q).length : Int), ((gdL tl (cvsTo sc tl k i q)).length : Int), ((((gdL tl (cvsTo sc tl k i q)).filter fun p => p.2.on).length : Nat) : Int))
  | 0, _ => by simp [refTk, cvsTo, gdL]
  | k + 1, hk => by
    have hkl : k < tl.length := by omega
    have ih := refTk_eq H hi q k (by omega)
    rw [refTk_next tl sc i q k hkl, ih]
    have hst : cvsTo sc tl (k + 1) i q = cvsTo sc tl k i q ++ cvTk sc i q tl k := by
      unfold cvsTo
      rw [List.range_succ, List.flatMap_append]
      simp
    rw [hst, cvTk_ref H hi q hkl]
    unfold gdL
    simp only [List.filter_append, List.length_append, Int.natCast_add]
    have hg : gdP tl = fun p : Prt => ((tl[p.1]?).map (·.good)).getD false := rfl
    cases hr : refC sc i q tl[k] with
    | false => simp
    | true =>
      obtain ⟨c, hc⟩ : ∃ c, cov1 tl[k] q = some c := by
        unfold refC at hr
        cases h : cov1 tl[k] q with
        | none => rw [h] at hr; simp at hr
        | some c => exact ⟨c, rfl⟩
      rw [hc]
      simp only [if_true, Option.map_some, Option.getD_some, Bool.true_and]
      have hgk : gdP tl (k, c) = tl[k].good := by rw [hg]; simp [List.getElem?_eq_getElem hkl]
      cases hgd : tl[k].good with
      | false =>
        rw [hgd] at hgk
        simp [hgk]
      | true =>
        rw [hgd] at hgk
        cases hon : c.on <;> simp [hgk, hon]
theorem refTk_all {sc : List Scene} {tl : List Tk} (H : CvOk sc tl) {i : Nat} (hi : i < sc.length) (q : Int) : refTk tl sc i q tl.length = cvdOf sc tl i q := refTk_eq H hi q _ (Nat.le_refl _)
theorem missI_cover (sc : List Scene) (tl : List Tk) (i : Nat) : missI sc tl i = ((coverL sc tl i).filter fun c => decide (c.2.2.1 = 0)).map fun c => ((i : Int), c.1, 0) := by
  unfold missI coverL
  rw [List.filter_map, List.map_map]
  congr 1
  apply List.filter_congr
  intro q _
  show decide ((gdL tl (cvs sc tl i q)).length = 0) = decide (((gdL tl (cvs sc tl i q)).length : Int) = 0)
  by_cases h : (gdL tl (cvs sc tl i q)).length = 0
  · rw [decide_eq_true h, decide_eq_true (by omega)]
  · rw [decide_eq_false h, decide_eq_false (by omega)]
end Go.Proofs.YtmefjkfjpgblcaaGreatDoor

/- The maps of the takes' check in plain words: scenes by their numbers, slates seen, windows by rolls. No program in sight. -/
namespace Go.Proofs.YtmefjkfjpgblcaaGreatDoor
set_option linter.unusedVariables false
open Go.RowKit

/-- The scenes' places by their numbers. -/
def mpS (xs : List Scene) : Nat → List (ByteArray × Value)
  | 0 => []
  | k + 1 => up (mpS xs k) ((xs[k]?).map (·.no) |>.getD ⟨#[]⟩) (.int .i64 (k : Int))
theorem lk_scn {xs : List Scene} (hd : ∀ (i : Nat) (hi : i < xs.length) (j : Nat) (hj : j < i), ¬ (xs[j]'(by omega)).no = xs[i].no) : ∀ k, k ≤ xs.length → ∀ s, lk (mpS xs k) s = (((xs.take k).findIdx? fun x => decide (x.no = s)).map fun j : Nat => Value.int .i64 (j : Int))
  | 0, _, s => by simp [mpS, lk]
  | k + 1, hk, s => by
    have hkl : k < xs.length := by omega
    have ih := lk_scn hd k (by omega) s
    rw [mpS, lk_up, List.getElem?_eq_getElem hkl, List.take_succ_eq_append_getElem hkl, List.findIdx?_append]
    show (if s = xs[k].no then _ else _) = _
    by_cases hs : s = xs[k].no
    · rw [if_pos hs]
      have hn : ((xs.take k).findIdx? fun x => decide (x.no = s)) = none := by
        rw [List.findIdx?_eq_none_iff]
        intro x hx
        obtain ⟨j, hj, rfl⟩ := List.mem_iff_getElem.1 hx
        rw [List.length_take] at hj
        rw [List.getElem_take]
        exact decide_eq_false (by rw [hs]; exact hd k hkl j (by omega))
      rw [hn, hs]
      simp [List.findIdx?_cons]
      omega
    · rw [if_neg hs, ih]
      have : ([xs[k]].findIdx? fun x => decide (x.no = s)) = none := by simp [List.findIdx?_cons]; exact fun e => hs e.symm
      rw [this]
      simp
theorem lk_scn_all {xs : List Scene} (hd : ∀ (i : Nat) (hi : i < xs.length) (j : Nat) (hj : j < i), ¬ (xs[j]'(by omega)).no = xs[i].no) (s : ByteArray) : lk (mpS xs xs.length) s = ((scnIdx xs s).map fun j : Nat => Value.int .i64 (j : Int)) := by
  have h := lk_scn hd xs.length (Nat.le_refl _) s
  rw [List.take_length] at h
  exact h
/-- The slates seen. -/
def slK (t : Tk) : SlK := (t.scene, t.setup, t.number)
def SeenM (pre : List Tk) (m : List (SlK × Value)) : Prop := ∀ k, lk m k = if (pre.any fun q => decide (slK q = k)) = true then some (.bool true) else none
theorem SeenM.nil_ : SeenM [] [] := fun k => rfl
theorem SeenM.up_ {pre : List Tk} {m : List (SlK × Value)} (h : SeenM pre m) (t : Tk) : SeenM (pre ++ [t]) (up m (slK t) (.bool true)) := fun k => by
  rw [lk_up, List.any_append]
  by_cases hk : k = slK t
  · subst hk
    rw [if_pos rfl, if_pos (by simp)]
  · rw [if_neg hk, h k]
    have : ([t].any fun q => decide (slK q = k)) = false := by simp; exact fun e => hk e.symm
    rw [this, Bool.or_false]
theorem SeenM.at_ {pre : List Tk} {m : List (SlK × Value)} (h : SeenM pre m) (t : Tk) : (lk m (slK t)).getD (.bool false) = .bool (pre.any (sameT t)) := by
  rw [h]
  have : (pre.any fun q => decide (slK q = slK t)) = pre.any (sameT t) := by
    congr 1
    funext q
    unfold sameT slK
    by_cases h1 : q.scene = t.scene <;> by_cases h2 : q.setup = t.setup <;> by_cases h3 : q.number = t.number <;> simp [h1, h2, h3]
  rw [this]
  cases pre.any (sameT t) <;> rfl
/-- The windows by rolls. -/
abbrev Wnd := Int × Int
def winR : Rep Wnd := Rep.flat 2 (fun p : Wnd => [.int .i64 p.1, .int .i64 p.2]) (fun _ => rfl)
def wins (pre : List Tk) (s : ByteArray) : List Wnd := (pre.filter fun q => decide (q.roll = s)).map fun q => (q.tin, q.tout)
def ovl (t : Tk) (p : Wnd) : Bool := decide (p.1 < t.tout) && decide (t.tin < p.2)
theorem wins_busy (pre : List Tk) (t : Tk) : (wins pre t.roll).any (ovl t) = pre.any (busyT t) := by
  unfold wins
  rw [List.any_map, List.any_filter]
  congr 1
  funext q
  show (decide (q.roll = t.roll) && (decide (q.tin < t.tout) && decide (t.tin < q.tout))) = _
  rw [← Bool.and_assoc]
  rfl
theorem wins_snoc (pre : List Tk) (t : Tk) : wins (pre ++ [t]) = fun s => if s = t.roll then wins pre t.roll ++ [(t.tin, t.tout)] else wins pre s := by
  funext s
  unfold wins
  rw [List.filter_append, List.map_append]
  by_cases h : s = t.roll
  · subst h
    rw [if_pos rfl]
    simp
  · rw [if_neg h]
    have : ¬ t.roll = s := fun e => h e.symm
    simp [this]
theorem wins_len (pre : List Tk) (s : ByteArray) : (wins pre s).length ≤ pre.length := by
  unfold wins
  rw [List.length_map]
  exact List.length_filter_le _ _
end Go.Proofs.YtmefjkfjpgblcaaGreatDoor

