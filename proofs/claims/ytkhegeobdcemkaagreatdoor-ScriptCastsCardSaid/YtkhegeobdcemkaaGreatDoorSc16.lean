/- Texts packed: EvM, PtS, PtA. -/
import Derived.Test.YtkhegeobdcemkaaGreatDoorSc15
import Derived.Test.YtkhegeobdcemkaaGreatDoorSc01
import Derived.Test.YtkhegeobdcemkaaGreatDoorSc14
import Derived.Test.YtkhegeobdcemkaaGreatDoorSc03
import Derived.Test.YtkhegeobdcemkaaGreatDoorSc07
import Derived.Test.YtkhegeobdcemkaaGreatDoorRows
import Derived.Test.YtkhegeobdcemkaaGreatDoorSc02
import Derived.BigQuiet
import Derived.Deep.QuietTactic
/- The program's reader of events, walked. -/
namespace Go.Proofs.YtkhegeobdcemkaaGreatDoor
set_option linter.unusedVariables false
open Go.RowKit Go.Sort

section
variable {l : List Roll} {t : ByteArray}
theorem evParse_roll (h : ¬ rollsFault l = 0) : evParse l t = ⟨[], 0, rollsFault l⟩ := if_pos h
theorem evParse_long (h : rollsFault l = 0) (h1 : 200000 < t.size) : evParse l t = ⟨[], 0, 2⟩ := by
  unfold evParse; rw [if_neg (by rw [h]; simp), if_pos h1]
theorem evParse_mid (h : rollsFault l = 0) (h1 : ¬ 200000 < t.size) : evParse l t = match evsRead l (words t 10).dropLast 0 0 [] with
    | .inr i => ⟨[], i, 9⟩
    | .inl a => if ¬ (words t 10).getLastD ⟨#[]⟩ = ⟨#[]⟩ then ⟨[], (words t 10).length - 1, 9⟩ else if ¬ evErr l a = 0 then ⟨[], 0, evErr l a⟩ else ⟨a, 0, 0⟩ := by
  unfold evParse; rw [if_neg (by rw [h]; simp), if_neg h1]; rfl
end
theorem evsRead_step (l : List Roll) (L : List ByteArray) (k : Nat) (at_ : Int) (acc : List Ev) (hk : k < L.length) :
    evsRead l (L.drop k) k at_ acc = match evRead l L[k] ((k : Int) + 1) at_ with
      | none => .inr k
      | some x => evsRead l (L.drop (k + 1)) (k + 1) (at_ + (x.tout - x.tin)) (acc ++ [x]) := by
  rw [List.drop_eq_getElem_cons hk, evsRead]; rfl
theorem evsRead_end (l : List Roll) (L : List ByteArray) (k : Nat) (at_ : Int) (acc : List Ev) (hk : L.length ≤ k) : evsRead l (L.drop k) k at_ acc = .inl acc := by
  rw [List.drop_eq_nil_of_le hk, evsRead]
theorem getLast_at (L : List ByteArray) (n : Nat) (h : L.length = n + 1) : L.getLastD ⟨#[]⟩ = L[n]'(by omega) := by
  cases L with
  | nil => simp at h
  | cons a r =>
    simp only [List.getLastD_cons]
    rw [List.getLastD_eq_getLast?, List.getLast?_eq_getElem?]
    simp at h
    subst h
    cases r with
    | nil => rfl
    | cons b s => simp

/-- A text read: the events, the number of a wrong line, the error. -/
def ParP (l : List Roll) (t : ByteArray) (w : World) (e : Ending) (w' : World) : Prop :=
  ∃ v, e = .returned (.tuple #[v, .int .i64 (evParse l t).line, .int .i64 (evParse l t).err]) ∧ Sli evR w' (fun b => w.heap.size ≤ b ∧ b < w'.heap.size) (evParse l t).list v ∧ Below w.heap.size w w'
theorem ParP.no {l : List Roll} {t : ByteArray} {w w' : World} {e : Ending} {a b : Int} (h : evParse l t = ⟨[], a, b⟩) (he : e = .returned (.tuple #[.slice none 0 0, .int .i64 a, .int .i64 b])) (hb : Below w.heap.size w w') : ParP l t w e w' := by
  refine ⟨.slice none 0 0, ?_, ?_, hb⟩
  · rw [h]; exact he
  · rw [h]; exact Sli.nil_

theorem ParP.yes {l : List Roll} {t : ByteArray} {w w' : World} {e : Ending} {acc : List Ev} {v : Value} (h : evParse l t = ⟨acc, 0, 0⟩) (he : e = .returned (.tuple #[v, .int .i64 0, .int .i64 0])) (hs : Sli evR w' (fun b => w.heap.size ≤ b ∧ b < w'.heap.size) acc v) (hb : Below w.heap.size w w') : ParP l t w e w' := by
  refine ⟨v, ?_, ?_, hb⟩
  · rw [h]; exact he
  · rw [h]; exact hs
end Go.Proofs.YtkhegeobdcemkaaGreatDoor

/- Takes read from a text, in plain words. No program in sight. -/
namespace Go.Proofs.YtkhegeobdcemkaaGreatDoor
set_option linter.unusedVariables false
open Go.RowKit

open Classical in
/-- A number of at most nine figures, read. -/
noncomputable def nmRd (s : ByteArray) : Option Int := if h : ∃ m, Lib.itoa m = s.data.toList ∧ okI m ∧ ((Lib.trimPrefix s.data.toList [45]).length : Int) ≤ 9 then some h.choose else none
theorem nmRd_of {s : ByteArray} {n : Int} {ok : Bool} (h : NumP s 9 n ok) : nmRd s = bif ok then some n else none := by
  unfold nmRd
  cases ok with
  | false =>
    rw [dif_neg]
    · rfl
    · rintro ⟨m, h1, h2, h3⟩
      exact h.2 rfl m h2 h1 h3
  | true =>
    have hv := h.1 rfl
    have hex : ∃ m, Lib.itoa m = s.data.toList ∧ okI m ∧ ((Lib.trimPrefix s.data.toList [45]).length : Int) ≤ 9 := ⟨n, hv⟩
    rw [dif_pos hex]
    have hc := hex.choose_spec
    exact congrArg some (itoa_inj hc.2.1 hv.2.1 (hc.1.trans hv.1.symm))
/-- The number itself may not be at hand: what the reader gives where it says no. -/
theorem dig_no45 {l : List UInt8} (hf : ∀ c ∈ l, figC c = true) : Lib.trimPrefix l [45] = l := by
  unfold Lib.trimPrefix
  rw [if_neg]
  cases l with
  | nil => decide
  | cons c r =>
    have hc := figC_iff.1 (hf c (by simp))
    intro h
    have h2 : (c == 45) = true := by
      simp [Lib.hasPrefix] at h
      simp [h]
    have h3 : c = 45 := by simpa using h2
    rw [h3] at hc
    exact absurd hc.1 (by decide)
theorem trim45 (l : List UInt8) : Lib.trimPrefix (45 :: l) [45] = l := by
  unfold Lib.trimPrefix
  rw [if_pos (by simp [Lib.hasPrefix])]
  rfl
theorem itoa_neg {n : Int} (h : n < 0) : Lib.itoa n = 45 :: Lib.decDigits n.natAbs := by
  unfold Lib.itoa
  rw [if_pos h]
theorem nm_bd {s : ByteArray} {n : Int} (h : Lib.itoa n = s.data.toList) (h2 : ((Lib.trimPrefix s.data.toList [45]).length : Int) ≤ 9) : -1000000000 < n ∧ n < 1000000000 := by
  have key : ∀ u : Nat, (Lib.decDigits u).length ≤ 9 → u < 1000000000 := fun u hu => by
    have h3 := dec_decB (s := ⟨(Lib.decDigits u).toArray⟩) (u := u) (most := 9) rfl (by show ((Lib.decDigits u).toArray.size : Int) ≤ 9; rw [List.size_toArray]; omega)
    have := decV_lt (most := 9) h3.1
    rw [h3.2] at this
    exact this
  rw [← h] at h2
  by_cases hn : n < 0
  · rw [itoa_neg hn, trim45] at h2
    have := key n.natAbs (by omega)
    omega
  · obtain ⟨m, rfl⟩ := Int.eq_ofNat_of_zero_le (show 0 ≤ n by omega)
    rw [itoa_nat, dig_no45 (dec_fig m)] at h2
    have := key m (by omega)
    omega
theorem nmRd_bd {s : ByteArray} {n : Int} (h : nmRd s = some n) : -1000000000 < n ∧ n < 1000000000 := by
  unfold nmRd at h
  split at h
  · rename_i hex
    injection h with h
    subst h
    have hc := hex.choose_spec
    exact nm_bd hc.1 hc.2.2
  · cases h
/-- How the program reads it: digits, and perhaps - before them. -/
def sgnD (s : ByteArray) : ByteArray := ⟨(Lib.trimPrefix s.data.toList [45]).toArray⟩
def sgnB (s : ByteArray) : Bool := Lib.hasPrefix s.data.toList [45]
theorem hasPre_cons {l : List UInt8} (h : Lib.hasPrefix l [45] = true) : ∃ r, l = 45 :: r := by
  cases l with
  | nil => simp [Lib.hasPrefix] at h
  | cons c r =>
    simp [Lib.hasPrefix] at h
    exact ⟨r, by rw [h]⟩
theorem nm_neg {s : ByteArray} (h : sgnB s = true) : NumP s 9 (-decA (sgnD s) 9) (decB (sgnD s) 9 && decide (0 < decA (sgnD s) 9)) := by
  obtain ⟨r, hr⟩ := hasPre_cons h
  have hd : (sgnD s).data.toList = r := by unfold sgnD; rw [hr, trim45]
  have hz : (sgnD s).size = r.length := by rw [← hd]; simp
  refine ⟨fun hok => ?_, fun hno m hm he hl => ?_⟩
  · simp only [Bool.and_eq_true, decide_eq_true_eq] at hok
    obtain ⟨h1, h2⟩ := hok
    have hv : decA (sgnD s) 9 = (decV (sgnD s) : Int) := by unfold decA; rw [h1]; rfl
    have hdd := decB_dec h1
    rw [hd] at hdd
    have hlt := decV_lt (most := 9) h1
    rw [hv] at h2 ⊢
    refine ⟨?_, ⟨by have : (10 : Nat) ^ 9 = 1000000000 := (by decide); omega, by omega⟩, ?_⟩
    · rw [itoa_neg (by omega), show (-(decV (sgnD s) : Int)).natAbs = decV (sgnD s) by omega, hdd, hr]
    · rw [hr, trim45, ← hz]
      exact (decB_iff.1 h1).2
  · rw [hr, trim45] at hl
    rw [hr] at he
    have hm0 : m < 0 := by
      apply Classical.byContradiction
      intro hm0
      obtain ⟨u, rfl⟩ := Int.eq_ofNat_of_zero_le (show 0 ≤ m by omega)
      rw [itoa_nat] at he
      have := figC_iff.1 (dec_fig u 45 (by rw [he]; simp))
      exact absurd this.1 (by decide)
    rw [itoa_neg hm0] at he
    injection he with _ he
    have h3 := dec_decB (s := sgnD s) (u := m.natAbs) (most := 9) (by rw [hd]; exact he) (by rw [hz]; exact hl)
    have hv : decA (sgnD s) 9 = (decV (sgnD s) : Int) := by unfold decA; rw [h3.1]; rfl
    rw [h3.1, hv, h3.2] at hno
    simp at hno
    omega
theorem nm_pos {s : ByteArray} (h : sgnB s = false) : NumP s 9 (decA (sgnD s) 9) (decB (sgnD s) 9) := by
  have hd : sgnD s = s := by
    apply ba_ext
    unfold sgnD Lib.trimPrefix
    rw [if_neg (by show ¬ sgnB s = true; rw [h]; decide)]
  have ht : Lib.trimPrefix s.data.toList [45] = s.data.toList := by have := congrArg (fun x : ByteArray => x.data.toList) hd; simpa [sgnD] using this
  rw [hd]
  refine ⟨fun hok => ?_, fun hno m hm he hl => ?_⟩
  · have hv : decA s 9 = (decV s : Int) := by unfold decA; rw [hok]; rfl
    have hlt := decV_lt (most := 9) hok
    rw [hv]
    refine ⟨by rw [itoa_nat]; exact decB_dec hok, ⟨by omega, by have : (10 : Nat) ^ 9 = 1000000000 := (by decide); omega⟩, ?_⟩
    rw [ht]
    have := (decB_iff.1 hok).2
    simpa using this
  · have hm0 : 0 ≤ m := by
      apply Classical.byContradiction
      intro hm0
      rw [itoa_neg (by omega)] at he
      have h2 : sgnB s = true := by unfold sgnB; rw [← he]; simp [Lib.hasPrefix]
      rw [h] at h2; cases h2
    obtain ⟨u, rfl⟩ := Int.eq_ofNat_of_zero_le hm0
    rw [itoa_nat] at he
    rw [ht] at hl
    have h3 := dec_decB (s := s) (u := u) (most := 9) he (by simpa using hl)
    rw [h3.1] at hno; cases hno
open Classical in
noncomputable def slRd (t : ByteArray) : Option (ByteArray × ByteArray × Int) := if h : ∃ p : ByteArray × ByteArray × Int, slateE p.1 p.2.1 p.2.2 = 0 ∧ slateS p.1 p.2.1 p.2.2.toNat = t then some h.choose else none
theorem slRd_of {t a b : ByteArray} {n : Int} {ok : Bool} (h : slP t a b n ok) : slRd t = bif ok then some (a, b, n) else none := by
  unfold slRd
  cases ok with
  | false =>
    rw [dif_neg]
    · rfl
    · rintro ⟨p, h1, h2⟩
      exact h.2 rfl _ _ _ h1 h2
  | true =>
    have hex : ∃ p : ByteArray × ByteArray × Int, slateE p.1 p.2.1 p.2.2 = 0 ∧ slateS p.1 p.2.1 p.2.2.toNat = t := ⟨(a, b, n), h.1 rfl⟩
    rw [dif_pos hex]
    have hc := hex.choose_spec
    have h2 : slP t hex.choose.1 hex.choose.2.1 hex.choose.2.2 true := ⟨fun _ => hc, fun e => by cases e⟩
    obtain ⟨e1, e2, e3⟩ := (slP_same h2 h).2 rfl
    exact congrArg some (Prod.ext e1 (Prod.ext e2 e3))
def dashS (s : ByteArray) : ByteArray := if s = ⟨#[45]⟩ then ⟨#[]⟩ else s
def goodT : ByteArray := ⟨#[103, 111, 111, 100]⟩
def badT : ByteArray := ⟨#[98, 97, 100]⟩
def onT : ByteArray := ⟨#[111, 110]⟩
def offT : ByteArray := ⟨#[111, 102, 102]⟩
def tkMk (c f : ByteArray) (good : Bool) (o1 : Option (ByteArray × ByteArray × Int)) (o2 o3 : Option Int) : Option Tk :=
  o1.bind fun p => o2.bind fun i => o3.bind fun o => some ⟨p.1, p.2.1, p.2.2, c, dashS f, i, o, good, []⟩
def tkHead (a c f g : ByteArray) : Prop := a = takeWd ∧ ¬ c = ⟨#[]⟩ ∧ ¬ f = ⟨#[]⟩ ∧ (g = goodT ∨ g = badT)
open Classical in
noncomputable def takeRd (w : List ByteArray) : Option Tk :=
  match w with
  | [a, b, c, d, e, f, g] => if tkHead a c f g then tkMk c f (decide (g = goodT)) (slRd b) (nmRd d) (nmRd e) else none
  | _ => none
def cvMk (on : Bool) (o1 o2 o3 : Option Int) : Option Cov := o1.bind fun p => o2.bind fun i => o3.bind fun o => some ⟨p, i, o, on⟩
def cvHead (a e : ByteArray) : Prop := a = coverWd ∧ (e = onT ∨ e = offT)
open Classical in
noncomputable def covRd (w : List ByteArray) : Option Cov :=
  match w with
  | [a, b, c, d, e] => if cvHead a e then cvMk (decide (e = onT)) (nmRd b) (nmRd c) (nmRd d) else none
  | _ => none
theorem takeRd_len {w : List ByteArray} (h : ¬ w.length = 7) : takeRd w = none := by
  unfold takeRd
  split
  · exact absurd rfl h
  · rfl
theorem covRd_len {w : List ByteArray} (h : ¬ w.length = 5) : covRd w = none := by
  unfold covRd
  split
  · exact absurd rfl h
  · rfl
theorem seven_eq {α : Type} {l : List α} (h : l.length = 7) : ∃ a b c d e f g, l = [a, b, c, d, e, f, g] := by
  match l, h with
  | [a, b, c, d, e, f, g], _ => exact ⟨a, b, c, d, e, f, g, rfl⟩
theorem five_eq {α : Type} {l : List α} (h : l.length = 5) : ∃ a b c d e, l = [a, b, c, d, e] := by
  match l, h with
  | [a, b, c, d, e], _ => exact ⟨a, b, c, d, e, rfl⟩
def addCov (c : Cov) (l : List Tk) : List Tk := l.modify (l.length - 1) fun t => { t with covers := t.covers ++ [c] }
/-- One line of takes: the takes so far. -/
noncomputable def ptStep (acc : List Tk) (s : ByteArray) : Option (List Tk) :=
  match covRd (words s 32) with
  | some c => if acc.length = 0 then none else some (addCov c acc)
  | none => (takeRd (words s 32)).map fun t => acc ++ [t]
theorem ptStep_cov {acc : List Tk} {s : ByteArray} {c : Cov} (h : covRd (words s 32) = some c) (h0 : ¬ acc.length = 0) : ptStep acc s = some (addCov c acc) := by
  unfold ptStep; rw [h]; exact if_neg h0
theorem ptStep_cov0 {acc : List Tk} {s : ByteArray} {c : Cov} (h : covRd (words s 32) = some c) (h0 : acc.length = 0) : ptStep acc s = none := by
  unfold ptStep; rw [h]; exact if_pos h0
theorem ptStep_tk {acc : List Tk} {s : ByteArray} (h : covRd (words s 32) = none) : ptStep acc s = (takeRd (words s 32)).map fun t => acc ++ [t] := by
  unfold ptStep; rw [h]
theorem cov_notake {s : ByteArray} {c : Cov} (h : covRd (words s 32) = some c) : takeRd (words s 32) = none := by
  apply takeRd_len
  intro h7
  rw [covRd_len (by omega)] at h; cases h
theorem tk_nocov {s : ByteArray} {t : Tk} (h : takeRd (words s 32) = some t) : covRd (words s 32) = none := by
  apply covRd_len
  intro h7
  rw [takeRd_len (by omega)] at h; cases h
noncomputable def ptRead : List ByteArray → Nat → List Tk → List Tk ⊕ Nat
  | [], _, acc => .inl acc
  | s :: r, i, acc => match ptStep acc s with
    | none => .inr i
    | some x => ptRead r (i + 1) x
theorem ptRead_step (L : List ByteArray) (k : Nat) (acc : List Tk) (hk : k < L.length) :
    ptRead (L.drop k) k acc = match ptStep acc L[k] with
      | none => .inr k
      | some x => ptRead (L.drop (k + 1)) (k + 1) x := by
  rw [List.drop_eq_getElem_cons hk, ptRead]
theorem ptRead_end (L : List ByteArray) (k : Nat) (acc : List Tk) (hk : L.length ≤ k) : ptRead (L.drop k) k acc = .inl acc := by
  rw [List.drop_eq_nil_of_le hk, ptRead]
structure PtR where
  list : List Tk
  line : Int
  err : Int
noncomputable def tkParse (text : ByteArray) : PtR :=
  if 200000 < text.size then ⟨[], 0, 2⟩ else
    match ptRead (words text 10).dropLast 0 [] with
    | .inr i => ⟨[], i, 9⟩
    | .inl l => if ¬ (words text 10).getLastD ⟨#[]⟩ = ⟨#[]⟩ then ⟨[], (words text 10).length - 1, 9⟩ else if ¬ tksE l = 0 then ⟨[], 0, tksE l⟩ else ⟨l, 0, 0⟩
theorem tkParse_long {t : ByteArray} (h1 : 200000 < t.size) : tkParse t = ⟨[], 0, 2⟩ := if_pos h1
theorem tkParse_mid {t : ByteArray} (h1 : ¬ 200000 < t.size) : tkParse t = match ptRead (words t 10).dropLast 0 [] with
    | .inr i => ⟨[], i, 9⟩
    | .inl a => if ¬ (words t 10).getLastD ⟨#[]⟩ = ⟨#[]⟩ then ⟨[], (words t 10).length - 1, 9⟩ else if ¬ tksE a = 0 then ⟨[], 0, tksE a⟩ else ⟨a, 0, 0⟩ := if_neg h1
end Go.Proofs.YtkhegeobdcemkaaGreatDoor

/- The program's readers of the lines of takes, walked. -/
namespace Go.Proofs.YtkhegeobdcemkaaGreatDoor
set_option linter.unusedVariables false
open Go.RowKit Go.Sort

theorem sgnD_size (s : ByteArray) : (sgnD s).size ≤ s.size := by
  have h := trimPrefix_len s.data.toList [45]
  unfold sgnD
  rw [mk_size]
  simpa using h
theorem decA_bd (s : ByteArray) : 0 ≤ decA s 9 ∧ decA s 9 ≤ 1000000000 := by
  unfold decA
  cases h : decB s 9 with
  | false => exact ⟨by simp, by simp⟩
  | true =>
    have := decV_lt (most := 9) h
    have e : (10 : Nat) ^ 9 = 1000000000 := (by decide)
    exact ⟨by simp, by simp; omega⟩
theorem beqL (a : ByteArray) (l : List UInt8) : (a.toList == l) = decide (a = ⟨l.toArray⟩) := by
  have h := beqS a ⟨l.toArray⟩
  rw [toList_mk l] at h
  exact h
def Cov.val (x : Cov) : Value := .agg #[.int .i64 x.para, .int .i64 x.tin, .int .i64 x.tout, .bool x.on]
/-- A line of a cover read: the cover where it is right. -/
def CvP (l : List ByteArray) (w : World) (e : Ending) (w' : World) : Prop :=
  ∃ (x : Cov) (ok : Bool), e = .returned (.tuple #[x.val, .bool ok]) ∧ covRd l = (bif ok then some x else none) ∧ Below w.heap.size w w'
theorem CvP.no {l : List ByteArray} {w w' : World} {e : Ending} (h : covRd l = none) (x : Cov) (he : e = .returned (.tuple #[x.val, .bool false])) (hb : Below w.heap.size w w') : CvP l w e w' := ⟨x, false, he, h, hb⟩
theorem strAt5 {w : World} {l : List ByteArray} {B n c : Nat} (h : Sli strR w (fun b => b = B) l (.slice (some ⟨B, 0, none⟩) n c)) (hB : B < w.heap.size) (k : Nat) (hk : k < l.length) : ∀ W, Below w.heap.size w W → W.cell? ⟨B, k, none⟩ = some (.string l[k]) :=
  fun W hb => (hb.cell (p := ⟨B, k, none⟩) hB).trans (strAtB h k hk)
open Classical in
theorem covRd_five {a b c d e : ByteArray} : covRd [a, b, c, d, e] = if cvHead a e then cvMk (decide (e = onT)) (nmRd b) (nmRd c) (nmRd d) else none := by
  unfold covRd
  rfl
def zeroCv : Cov := ⟨0, 0, 0, false⟩
theorem cvMk_n1 {on : Bool} {b c : Option Int} : cvMk on none b c = none := rfl
theorem cvMk_n2 {on : Bool} {a c : Option Int} : cvMk on a none c = none := by cases a <;> rfl
theorem cvMk_n3 {on : Bool} {a b : Option Int} : cvMk on a b none = none := by cases a <;> cases b <;> rfl
theorem five_len {a b c d e : ByteArray} : ([a, b, c, d, e] : List ByteArray).length = 5 := rfl
end Go.Proofs.YtkhegeobdcemkaaGreatDoor

