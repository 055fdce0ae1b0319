/- Texts packed: EvM, PtS, PtA, PtB, PtC, PtD. -/
import Derived.Test.YtihkkaeoijheoaaGreatDoorTt13
import Derived.Test.YtihkkaeoijheoaaGreatDoorTt01
import Derived.Test.YtihkkaeoijheoaaGreatDoorTt12
import Derived.Test.YtihkkaeoijheoaaGreatDoorTt03
import Derived.Test.YtihkkaeoijheoaaGreatDoorTt07
import Derived.Test.YtihkkaeoijheoaaGreatDoorRows
import Derived.Test.YtihkkaeoijheoaaGreatDoorTt02
import Derived.BigQuiet
import Derived.Deep.QuietTactic
import Derived.Test.YtihkkaeoijheoaaGreatDoorTt10
import Derived.BigRegion
/- The program's reader of events, walked. -/
namespace Go.Proofs.YtihkkaeoijheoaaGreatDoor
set_option linter.unusedVariables false
open Go.RowKit Go.Sort

section
variable {l : List Roll} {t : ByteArray}
theorem evParse_roll (h : ¬ rollsFault l = 0) : evParse l t = ⟨[], 0, rollsFault l⟩ := if_pos h
theorem evParse_long (h : rollsFault l = 0) (h1 : 200000 < t.size) : evParse l t = ⟨[], 0, 2⟩ := by
  unfold evParse; rw [if_neg (by rw [h]; simp), if_pos h1]
theorem evParse_mid (h : rollsFault l = 0) (h1 : ¬ 200000 < t.size) : evParse l t = match evsRead l (words t 10).dropLast 0 0 [] with
    | .inr i => ⟨[], i, 9⟩
    | .inl a => if ¬ (words t 10).getLastD ⟨#[]⟩ = ⟨#[]⟩ then ⟨[], (words t 10).length - 1, 9⟩ else if ¬ evErr l a = 0 then ⟨[], 0, evErr l a⟩ else ⟨a, 0, 0⟩ := by
  unfold evParse; rw [if_neg (by rw [h]; simp), if_neg h1]; rfl
end
theorem evsRead_step (l : List Roll) (L : List ByteArray) (k : Nat) (at_ : Int) (acc : List Ev) (hk : k < L.length) :
    evsRead l (L.drop k) k at_ acc = match evRead l L[k] ((k : Int) + 1) at_ with
      | none => .inr k
      | some x => evsRead l (L.drop (k + 1)) (k + 1) (at_ + (x.tout - x.tin)) (acc ++ [x]) := by
  rw [List.drop_eq_getElem_cons hk, evsRead]; rfl
theorem evsRead_end (l : List Roll) (L : List ByteArray) (k : Nat) (at_ : Int) (acc : List Ev) (hk : L.length ≤ k) : evsRead l (L.drop k) k at_ acc = .inl acc := by
  rw [List.drop_eq_nil_of_le hk, evsRead]
theorem getLast_at (L : List ByteArray) (n : Nat) (h : L.length = n + 1) : L.getLastD ⟨#[]⟩ = L[n]'(by omega) := by
  cases L with
  | nil => simp at h
  | cons a r =>
    simp only [List.getLastD_cons]
    rw [List.getLastD_eq_getLast?, List.getLast?_eq_getElem?]
    simp at h
    subst h
    cases r with
    | nil => rfl
    | cons b s => simp

/-- A text read: the events, the number of a wrong line, the error. -/
def ParP (l : List Roll) (t : ByteArray) (w : World) (e : Ending) (w' : World) : Prop :=
  ∃ v, e = .returned (.tuple #[v, .int .i64 (evParse l t).line, .int .i64 (evParse l t).err]) ∧ Sli evR w' (fun b => w.heap.size ≤ b ∧ b < w'.heap.size) (evParse l t).list v ∧ Below w.heap.size w w'
theorem ParP.no {l : List Roll} {t : ByteArray} {w w' : World} {e : Ending} {a b : Int} (h : evParse l t = ⟨[], a, b⟩) (he : e = .returned (.tuple #[.slice none 0 0, .int .i64 a, .int .i64 b])) (hb : Below w.heap.size w w') : ParP l t w e w' := by
  refine ⟨.slice none 0 0, ?_, ?_, hb⟩
  · rw [h]; exact he
  · rw [h]; exact Sli.nil_

theorem ParP.yes {l : List Roll} {t : ByteArray} {w w' : World} {e : Ending} {acc : List Ev} {v : Value} (h : evParse l t = ⟨acc, 0, 0⟩) (he : e = .returned (.tuple #[v, .int .i64 0, .int .i64 0])) (hs : Sli evR w' (fun b => w.heap.size ≤ b ∧ b < w'.heap.size) acc v) (hb : Below w.heap.size w w') : ParP l t w e w' := by
  refine ⟨v, ?_, ?_, hb⟩
  · rw [h]; exact he
  · rw [h]; exact hs
end Go.Proofs.YtihkkaeoijheoaaGreatDoor

/- Takes read from a text, in plain words. No program in sight. -/
namespace Go.Proofs.YtihkkaeoijheoaaGreatDoor
set_option linter.unusedVariables false
open Go.RowKit

open Classical in
/-- A number of at most nine figures, read. -/
noncomputable def nmRd (s : ByteArray) : Option Int := if h : ∃ m, Lib.itoa m = s.data.toList ∧ okI m ∧ ((Lib.trimPrefix s.data.toList [45]).length : Int) ≤ 9 then some h.choose else none
theorem nmRd_of {s : ByteArray} {n : Int} {ok : Bool} (h : NumP s 9 n ok) : nmRd s = bif ok then some n else none := by
  unfold nmRd
  cases ok with
  | false =>
    rw [dif_neg]
    · rfl
    · rintro ⟨m, h1, h2, h3⟩
      exact h.2 rfl m h2 h1 h3
  | true =>
    have hv := h.1 rfl
    have hex : ∃ m, Lib.itoa m = s.data.toList ∧ okI m ∧ ((Lib.trimPrefix s.data.toList [45]).length : Int) ≤ 9 := ⟨n, hv⟩
    rw [dif_pos hex]
    have hc := hex.choose_spec
    exact congrArg some (itoa_inj hc.2.1 hv.2.1 (hc.1.trans hv.1.symm))
/-- The number itself may not be at hand: what the reader gives where it says no. -/
theorem dig_no45 {l : List UInt8} (hf : ∀ c ∈ l, figC c = true) : Lib.trimPrefix l [45] = l := by
  unfold Lib.trimPrefix
  rw [if_neg]
  cases l with
  | nil => decide
  | cons c r =>
    have hc := figC_iff.1 (hf c (by simp))
    intro h
    have h2 : (c == 45) = true := by
      simp [Lib.hasPrefix] at h
      simp [h]
    have h3 : c = 45 := by simpa using h2
    rw [h3] at hc
    exact absurd hc.1 (by decide)
theorem trim45 (l : List UInt8) : Lib.trimPrefix (45 :: l) [45] = l := by
  unfold Lib.trimPrefix
  rw [if_pos (by simp [Lib.hasPrefix])]
  rfl
theorem itoa_neg {n : Int} (h : n < 0) : Lib.itoa n = 45 :: Lib.decDigits n.natAbs := by
  unfold Lib.itoa
  rw [if_pos h]
theorem nm_bd {s : ByteArray} {n : Int} (h : Lib.itoa n = s.data.toList) (h2 : ((Lib.trimPrefix s.data.toList [45]).length : Int) ≤ 9) : -1000000000 < n ∧ n < 1000000000 := by
  have key : ∀ u : Nat, (Lib.decDigits u).length ≤ 9 → u < 1000000000 := fun u hu => by
    have h3 := dec_decB (s := ⟨(Lib.decDigits u).toArray⟩) (u := u) (most := 9) rfl (by show ((Lib.decDigits u).toArray.size : Int) ≤ 9; rw [List.size_toArray]; omega)
    have := decV_lt (most := 9) h3.1
    rw [h3.2] at this
    exact this
  rw [← h] at h2
  by_cases hn : n < 0
  · rw [itoa_neg hn, trim45] at h2
    have := key n.natAbs (by omega)
    omega
  · obtain ⟨m, rfl⟩ := Int.eq_ofNat_of_zero_le (show 0 ≤ n by omega)
    rw [itoa_nat, dig_no45 (dec_fig m)] at h2
    have := key m (by omega)
    omega
theorem nmRd_bd {s : ByteArray} {n : Int} (h : nmRd s = some n) : -1000000000 < n ∧ n < 1000000000 := by
  unfold nmRd at h
  split at h
  · rename_i hex
    injection h with h
    subst h
    have hc := hex.choose_spec
    exact nm_bd hc.1 hc.2.2
  · cases h
/-- How the program reads it: digits, and perhaps - before them. -/
def sgnD (s : ByteArray) : ByteArray := ⟨(Lib.trimPrefix s.data.toList [45]).toArray⟩
def sgnB (s : ByteArray) : Bool := Lib.hasPrefix s.data.toList [45]
theorem hasPre_cons {l : List UInt8} (h : Lib.hasPrefix l [45] = true) : ∃ r, l = 45 :: r := by
  cases l with
  | nil => simp [Lib.hasPrefix] at h
  | cons c r =>
    simp [Lib.hasPrefix] at h
    exact ⟨r, by rw [h]⟩
theorem nm_neg {s : ByteArray} (h : sgnB s = true) : NumP s 9 (-decA (sgnD s) 9) (decB (sgnD s) 9 && decide (0 < decA (sgnD s) 9)) := by
  obtain ⟨r, hr⟩ := hasPre_cons h
  have hd : (sgnD s).data.toList = r := by unfold sgnD; rw [hr, trim45]
  have hz : (sgnD s).size = r.length := by rw [← hd]; simp
  refine ⟨fun hok => ?_, fun hno m hm he hl => ?_⟩
  · simp only [Bool.and_eq_true, decide_eq_true_eq] at hok
    obtain ⟨h1, h2⟩ := hok
    have hv : decA (sgnD s) 9 = (decV (sgnD s) : Int) := by unfold decA; rw [h1]; rfl
    have hdd := decB_dec h1
    rw [hd] at hdd
    have hlt := decV_lt (most := 9) h1
    rw [hv] at h2 ⊢
    refine ⟨?_, ⟨by have : (10 : Nat) ^ 9 = 1000000000 := (by decide); omega, by omega⟩, ?_⟩
    · rw [itoa_neg (by omega), show (-(decV (sgnD s) : Int)).natAbs = decV (sgnD s) by omega, hdd, hr]
    · rw [hr, trim45, ← hz]
      exact (decB_iff.1 h1).2
  · rw [hr, trim45] at hl
    rw [hr] at he
    have hm0 : m < 0 := by
      apply Classical.byContradiction
      intro hm0
      obtain ⟨u, rfl⟩ := Int.eq_ofNat_of_zero_le (show 0 ≤ m by omega)
      rw [itoa_nat] at he
      have := figC_iff.1 (dec_fig u 45 (by rw [he]; simp))
      exact absurd this.1 (by decide)
    rw [itoa_neg hm0] at he
    injection he with _ he
    have h3 := dec_decB (s := sgnD s) (u := m.natAbs) (most := 9) (by rw [hd]; exact he) (by rw [hz]; exact hl)
    have hv : decA (sgnD s) 9 = (decV (sgnD s) : Int) := by unfold decA; rw [h3.1]; rfl
    rw [h3.1, hv, h3.2] at hno
    simp at hno
    omega
theorem nm_pos {s : ByteArray} (h : sgnB s = false) : NumP s 9 (decA (sgnD s) 9) (decB (sgnD s) 9) := by
  have hd : sgnD s = s := by
    apply ba_ext
    unfold sgnD Lib.trimPrefix
    rw [if_neg (by show ¬ sgnB s = true; rw [h]; decide)]
  have ht : Lib.trimPrefix s.data.toList [45] = s.data.toList := by have := congrArg (fun x : ByteArray => x.data.toList) hd; simpa [sgnD] using this
  rw [hd]
  refine ⟨fun hok => ?_, fun hno m hm he hl => ?_⟩
  · have hv : decA s 9 = (decV s : Int) := by unfold decA; rw [hok]; rfl
    have hlt := decV_lt (most := 9) hok
    rw [hv]
    refine ⟨by rw [itoa_nat]; exact decB_dec hok, ⟨by omega, by have : (10 : Nat) ^ 9 = 1000000000 := (by decide); omega⟩, ?_⟩
    rw [ht]
    have := (decB_iff.1 hok).2
    simpa using this
  · have hm0 : 0 ≤ m := by
      apply Classical.byContradiction
      intro hm0
      rw [itoa_neg (by omega)] at he
      have h2 : sgnB s = true := by unfold sgnB; rw [← he]; simp [Lib.hasPrefix]
      rw [h] at h2; cases h2
    obtain ⟨u, rfl⟩ := Int.eq_ofNat_of_zero_le hm0
    rw [itoa_nat] at he
    rw [ht] at hl
    have h3 := dec_decB (s := s) (u := u) (most := 9) he (by simpa using hl)
    rw [h3.1] at hno; cases hno
open Classical in
noncomputable def slRd (t : ByteArray) : Option (ByteArray × ByteArray × Int) := if h : ∃ p : ByteArray × ByteArray × Int, slateE p.1 p.2.1 p.2.2 = 0 ∧ slateS p.1 p.2.1 p.2.2.toNat = t then some h.choose else none
theorem slRd_of {t a b : ByteArray} {n : Int} {ok : Bool} (h : slP t a b n ok) : slRd t = bif ok then some (a, b, n) else none := by
  unfold slRd
  cases ok with
  | false =>
    rw [dif_neg]
    · rfl
    · rintro ⟨p, h1, h2⟩
      exact h.2 rfl _ _ _ h1 h2
  | true =>
    have hex : ∃ p : ByteArray × ByteArray × Int, slateE p.1 p.2.1 p.2.2 = 0 ∧ slateS p.1 p.2.1 p.2.2.toNat = t := ⟨(a, b, n), h.1 rfl⟩
    rw [dif_pos hex]
    have hc := hex.choose_spec
    have h2 : slP t hex.choose.1 hex.choose.2.1 hex.choose.2.2 true := ⟨fun _ => hc, fun e => by cases e⟩
    obtain ⟨e1, e2, e3⟩ := (slP_same h2 h).2 rfl
    exact congrArg some (Prod.ext e1 (Prod.ext e2 e3))
def dashS (s : ByteArray) : ByteArray := if s = ⟨#[45]⟩ then ⟨#[]⟩ else s
def goodT : ByteArray := ⟨#[103, 111, 111, 100]⟩
def badT : ByteArray := ⟨#[98, 97, 100]⟩
def onT : ByteArray := ⟨#[111, 110]⟩
def offT : ByteArray := ⟨#[111, 102, 102]⟩
def tkMk (c f : ByteArray) (good : Bool) (o1 : Option (ByteArray × ByteArray × Int)) (o2 o3 : Option Int) : Option Tk :=
  o1.bind fun p => o2.bind fun i => o3.bind fun o => some ⟨p.1, p.2.1, p.2.2, c, dashS f, i, o, good, []⟩
def tkHead (a c f g : ByteArray) : Prop := a = takeWd ∧ ¬ c = ⟨#[]⟩ ∧ ¬ f = ⟨#[]⟩ ∧ (g = goodT ∨ g = badT)
open Classical in
noncomputable def takeRd (w : List ByteArray) : Option Tk :=
  match w with
  | [a, b, c, d, e, f, g] => if tkHead a c f g then tkMk c f (decide (g = goodT)) (slRd b) (nmRd d) (nmRd e) else none
  | _ => none
def cvMk (on : Bool) (o1 o2 o3 : Option Int) : Option Cov := o1.bind fun p => o2.bind fun i => o3.bind fun o => some ⟨p, i, o, on⟩
def cvHead (a e : ByteArray) : Prop := a = coverWd ∧ (e = onT ∨ e = offT)
open Classical in
noncomputable def covRd (w : List ByteArray) : Option Cov :=
  match w with
  | [a, b, c, d, e] => if cvHead a e then cvMk (decide (e = onT)) (nmRd b) (nmRd c) (nmRd d) else none
  | _ => none
theorem takeRd_len {w : List ByteArray} (h : ¬ w.length = 7) : takeRd w = none := by
  unfold takeRd
  split
  · exact absurd rfl h
  · rfl
theorem covRd_len {w : List ByteArray} (h : ¬ w.length = 5) : covRd w = none := by
  unfold covRd
  split
  · exact absurd rfl h
  · rfl
theorem seven_eq {α : Type} {l : List α} (h : l.length = 7) : ∃ a b c d e f g, l = [a, b, c, d, e, f, g] := by
  match l, h with
  | [a, b, c, d, e, f, g], _ => exact ⟨a, b, c, d, e, f, g, rfl⟩
theorem five_eq {α : Type} {l : List α} (h : l.length = 5) : ∃ a b c d e, l = [a, b, c, d, e] := by
  match l, h with
  | [a, b, c, d, e], _ => exact ⟨a, b, c, d, e, rfl⟩
def addCov (c : Cov) (l : List Tk) : List Tk := l.modify (l.length - 1) fun t => { t with covers := t.covers ++ [c] }
/-- One line of takes: the takes so far. -/
noncomputable def ptStep (acc : List Tk) (s : ByteArray) : Option (List Tk) :=
  match covRd (words s 32) with
  | some c => if acc.length = 0 then none else some (addCov c acc)
  | none => (takeRd (words s 32)).map fun t => acc ++ [t]
theorem ptStep_cov {acc : List Tk} {s : ByteArray} {c : Cov} (h : covRd (words s 32) = some c) (h0 : ¬ acc.length = 0) : ptStep acc s = some (addCov c acc) := by
  unfold ptStep; rw [h]; exact if_neg h0
theorem ptStep_cov0 {acc : List Tk} {s : ByteArray} {c : Cov} (h : covRd (words s 32) = some c) (h0 : acc.length = 0) : ptStep acc s = none := by
  unfold ptStep; rw [h]; exact if_pos h0
theorem ptStep_tk {acc : List Tk} {s : ByteArray} (h : covRd (words s 32) = none) : ptStep acc s = (takeRd (words s 32)).map fun t => acc ++ [t] := by
  unfold ptStep; rw [h]
theorem cov_notake {s : ByteArray} {c : Cov} (h : covRd (words s 32) = some c) : takeRd (words s 32) = none := by
  apply takeRd_len
  intro h7
  rw [covRd_len (by omega)] at h; cases h
theorem tk_nocov {s : ByteArray} {t : Tk} (h : takeRd (words s 32) = some t) : covRd (words s 32) = none := by
  apply covRd_len
  intro h7
  rw [takeRd_len (by omega)] at h; cases h
noncomputable def ptRead : List ByteArray → Nat → List Tk → List Tk ⊕ Nat
  | [], _, acc => .inl acc
  | s :: r, i, acc => match ptStep acc s with
    | none => .inr i
    | some x => ptRead r (i + 1) x
theorem ptRead_step (L : List ByteArray) (k : Nat) (acc : List Tk) (hk : k < L.length) :
    ptRead (L.drop k) k acc = match ptStep acc L[k] with
      | none => .inr k
      | some x => ptRead (L.drop (k + 1)) (k + 1) x := by
  rw [List.drop_eq_getElem_cons hk, ptRead]
theorem ptRead_end (L : List ByteArray) (k : Nat) (acc : List Tk) (hk : L.length ≤ k) : ptRead (L.drop k) k acc = .inl acc := by
  rw [List.drop_eq_nil_of_le hk, ptRead]
structure PtR where
  list : List Tk
  line : Int
  err : Int
noncomputable def tkParse (text : ByteArray) : PtR :=
  if 200000 < text.size then ⟨[], 0, 2⟩ else
    match ptRead (words text 10).dropLast 0 [] with
    | .inr i => ⟨[], i, 9⟩
    | .inl l => if ¬ (words text 10).getLastD ⟨#[]⟩ = ⟨#[]⟩ then ⟨[], (words text 10).length - 1, 9⟩ else if ¬ tksE l = 0 then ⟨[], 0, tksE l⟩ else ⟨l, 0, 0⟩
theorem tkParse_long {t : ByteArray} (h1 : 200000 < t.size) : tkParse t = ⟨[], 0, 2⟩ := if_pos h1
theorem tkParse_mid {t : ByteArray} (h1 : ¬ 200000 < t.size) : tkParse t = match ptRead (words t 10).dropLast 0 [] with
    | .inr i => ⟨[], i, 9⟩
    | .inl a => if ¬ (words t 10).getLastD ⟨#[]⟩ = ⟨#[]⟩ then ⟨[], (words t 10).length - 1, 9⟩ else if ¬ tksE a = 0 then ⟨[], 0, tksE a⟩ else ⟨a, 0, 0⟩ := if_neg h1
end Go.Proofs.YtihkkaeoijheoaaGreatDoor

/- The program's readers of the lines of takes, walked. -/
namespace Go.Proofs.YtihkkaeoijheoaaGreatDoor
set_option linter.unusedVariables false
open Go.RowKit Go.Sort

theorem sgnD_size (s : ByteArray) : (sgnD s).size ≤ s.size := by
  have h := trimPrefix_len s.data.toList [45]
  unfold sgnD
  rw [mk_size]
  simpa using h
theorem decA_bd (s : ByteArray) : 0 ≤ decA s 9 ∧ decA s 9 ≤ 1000000000 := by
  unfold decA
  cases h : decB s 9 with
  | false => exact ⟨by simp, by simp⟩
  | true =>
    have := decV_lt (most := 9) h
    have e : (10 : Nat) ^ 9 = 1000000000 := (by decide)
    exact ⟨by simp, by simp; omega⟩
set_option maxHeartbeats 1600000 in
theorem signed_c (s : ByteArray) (w : World) (hs : s.size ≤ 1000000) (hl : ErrsLaid w) : Calls Tryz.prog 179 #[.string s] w (NumR s 9 w) := by
  have HCP := Lib.hid (Tryz.strings_CutPrefix s ⟨#[45]⟩ w)
  have hds := sgnD_size s
  have HDE := Lib.hid (decimal_c (sgnD s) 9 w (by omega) (by omega) (by omega) hl)
  obtain ⟨hd1, hd2⟩ := decA_bd (sgnD s)
  have HNN := Lib.hid (@nm_neg s)
  have HNP := Lib.hid (@nm_pos s)
  have HPE := Lib.hid (show (⟨(Lib.trimPrefix s.data.toList (⟨#[45]⟩ : ByteArray).data.toList).toArray⟩ : ByteArray) = sgnD s from rfl)
  have HPB := Lib.hid (show Lib.hasPrefix s.data.toList (⟨#[45]⟩ : ByteArray).data.toList = sgnB s from rfl)
  clear hl hs
  generalize decA (sgnD s) 9 = d at *
  generalize decB (sgnD s) 9 = ok at *
  generalize sgnD s = D at *
  have hw : IntKind.i64.wrap (-d) = -d := IntWalk.i64_in _ (by omega)
  cases hb : sgnB s with
  | false =>
    have HP := Lib.hid (HNP.out hb)
    rw [hb] at HPB
    clear hb HNN HNP
    go_enter Tryz.func179, Tryz.ntmps179
    go_wp2_with (first | (go_at_call 72; refine HCP.out.mono ?_; rintro e w' ⟨rfl, rfl⟩; rw [HPE.out, HPB.out]) | (go_at_call 234; refine HDE.out.mono ?_; rintro e w2 ⟨rfl, hb2⟩) | fail)
    go_ret2
    exact ⟨d, ok, HP.out, rfl, hb2⟩
  | true =>
    have HP := Lib.hid (HNN.out hb)
    rw [hb] at HPB
    clear hb HNN HNP
    cases ok with
    | false =>
      go_enter Tryz.func179, Tryz.ntmps179
      go_wp2_with (first | (go_at_call 72; refine HCP.out.mono ?_; rintro e w' ⟨rfl, rfl⟩; rw [HPE.out, HPB.out]) | (go_at_call 234; refine HDE.out.mono ?_; rintro e w2 ⟨rfl, hb2⟩) | fail)
      go_ret2
      exact ⟨-d, false, HP.out, rfl, hb2⟩
    | true =>
      rw [Bool.true_and] at HP
      by_cases h0 : 0 < d
      · have HQ := Lib.hid (show NumP s 9 (-d) true by have := HP.out; rwa [decide_eq_true h0] at this)
        go_enter Tryz.func179, Tryz.ntmps179
        go_wp2_with (first | (go_at_call 72; refine HCP.out.mono ?_; rintro e w' ⟨rfl, rfl⟩; rw [HPE.out, HPB.out]) | (go_at_call 234; refine HDE.out.mono ?_; rintro e w2 ⟨rfl, hb2⟩) | fail)
        go_ret2
        exact ⟨-d, true, HQ.out, by first | rfl | (simp; done) | (simp; omega), hb2⟩
      · have HQ := Lib.hid (show NumP s 9 (-d) false by have := HP.out; rwa [decide_eq_false h0] at this)
        have hd0 : d ≤ 0 := by omega
        clear h0
        go_enter Tryz.func179, Tryz.ntmps179
        go_wp2_with (first | (go_at_call 72; refine HCP.out.mono ?_; rintro e w' ⟨rfl, rfl⟩; rw [HPE.out, HPB.out]) | (go_at_call 234; refine HDE.out.mono ?_; rintro e w2 ⟨rfl, hb2⟩) | fail)
        go_ret2
        exact ⟨-d, false, HQ.out, by first | rfl | (simp; done) | (simp; omega), hb2⟩
theorem beqL (a : ByteArray) (l : List UInt8) : (a.toList == l) = decide (a = ⟨l.toArray⟩) := by
  have h := beqS a ⟨l.toArray⟩
  rw [toList_mk l] at h
  exact h
def Cov.val (x : Cov) : Value := .agg #[.int .i64 x.para, .int .i64 x.tin, .int .i64 x.tout, .bool x.on]
/-- A line of a cover read: the cover where it is right. -/
def CvP (l : List ByteArray) (w : World) (e : Ending) (w' : World) : Prop :=
  ∃ (x : Cov) (ok : Bool), e = .returned (.tuple #[x.val, .bool ok]) ∧ covRd l = (bif ok then some x else none) ∧ Below w.heap.size w w'
theorem CvP.no {l : List ByteArray} {w w' : World} {e : Ending} (h : covRd l = none) (x : Cov) (he : e = .returned (.tuple #[x.val, .bool false])) (hb : Below w.heap.size w w') : CvP l w e w' := ⟨x, false, he, h, hb⟩
theorem strAt5 {w : World} {l : List ByteArray} {B n c : Nat} (h : Sli strR w (fun b => b = B) l (.slice (some ⟨B, 0, none⟩) n c)) (hB : B < w.heap.size) (k : Nat) (hk : k < l.length) : ∀ W, Below w.heap.size w W → W.cell? ⟨B, k, none⟩ = some (.string l[k]) :=
  fun W hb => (hb.cell (p := ⟨B, k, none⟩) hB).trans (strAtB h k hk)
open Classical in
theorem covRd_five {a b c d e : ByteArray} : covRd [a, b, c, d, e] = if cvHead a e then cvMk (decide (e = onT)) (nmRd b) (nmRd c) (nmRd d) else none := by
  unfold covRd
  rfl
def zeroCv : Cov := ⟨0, 0, 0, false⟩
theorem cvMk_n1 {on : Bool} {b c : Option Int} : cvMk on none b c = none := rfl
theorem cvMk_n2 {on : Bool} {a c : Option Int} : cvMk on a none c = none := by cases a <;> rfl
theorem cvMk_n3 {on : Bool} {a b : Option Int} : cvMk on a b none = none := by cases a <;> cases b <;> rfl
theorem five_len {a b c d e : ByteArray} : ([a, b, c, d, e] : List ByteArray).length = 5 := rfl
set_option maxRecDepth 100000 in
set_option maxHeartbeats 1000000 in
theorem coverLine_c (B c : Nat) (l : List ByteArray) (w : World) (h : Sli strR w (fun b => b = B) l (.slice (some ⟨B, 0, none⟩) l.length c)) (hB : B < w.heap.size) (hsz : ∀ x ∈ l, x.size ≤ 1000000) (hl : ErrsLaid w) :
    Calls Tryz.prog 107 #[.slice (some ⟨B, 0, none⟩) l.length c] w (CvP l w) := by
  have HL := Lib.hid hl
  clear hl
  have hB1 := (Below.refl w.heap.size w).alloc (Nat.le_refl _) (.cells #[.int .i64 0, .int .i64 0, .int .i64 0, .bool false] 127)
  have HB1 := Lib.hid hB1
  have HBK := Lib.hid (heap_alloc_new w (.cells #[.int .i64 0, .int .i64 0, .int .i64 0, .bool false] 127))
  have hz1 : w.heap.size < (w.alloc (.cells #[.int .i64 0, .int .i64 0, .int .i64 0, .bool false] 127)).heap.size := by simp
  have HKP := Lib.hid (fun (W : World) (hb : Below (w.alloc (.cells #[.int .i64 0, .int .i64 0, .int .i64 0, .bool false] 127)).heap.size (w.alloc (.cells #[.int .i64 0, .int .i64 0, .int .i64 0, .bool false] 127)) W) => show (W.cell? ⟨w.heap.size, 0, none⟩ = some (.int .i64 0) ∧ W.cell? ⟨w.heap.size, 1, none⟩ = some (.int .i64 0) ∧ W.cell? ⟨w.heap.size, 2, none⟩ = some (.int .i64 0) ∧ W.cell? ⟨w.heap.size, 3, none⟩ = some (.bool false) ∧ ∀ i, W.frozen? ⟨w.heap.size, i, none⟩ = false) ∧ Below w.heap.size w W from
    have ⟨y, z⟩ := str_cells ((hb.block w.heap.size (by simp)).trans (heap_alloc_new w _))
    ⟨⟨y 0, y 1, y 2, y 3, z⟩, hB1.trans (hb.mono hB1.size)⟩)
  clear hB1
  by_cases h5 : l.length = 5
  case neg =>
    have HE := Lib.hid (covRd_len h5)
    have e6 : ((l.length : Int) != 5) = true := by rw [bne_iff_ne]; omega
    have hq := HKP.out _ (Below.refl _ _)
    obtain ⟨y0, y1, y2, y3, y4⟩ := hq.1
    have HB := Lib.hid hq.2
    generalize l.length = n at *
    clear h5 h hsz hq HKP HBK
    go_enter Tryz.func107, Tryz.ntmps107
    go_wp2
    refine ⟨rfl, .tuple #[.agg #[.int .i64 0, .int .i64 0, .int .i64 0, .bool false], .bool false], (by rw [results_cell_tmp rfl]; go_simp), ?_⟩
    refine CvP.no HE.out zeroCv rfl ?_
    repeat (first | exact HB.out | refine Below.drew ?_ | refine Below.setCell ?_ (by first | exact Nat.le_refl _ | (dsimp only; omega)) _)
  obtain ⟨a, b, cc, d, e, rfl⟩ := five_eq h5
  rw [show ([a, b, cc, d, e] : List ByteArray).length = 5 from rfl] at h ⊢
  clear h5
  have HCE := Lib.hid (fun (W : World) (hb : Below w.heap.size w W) => show W.cell? ⟨B, 0, none⟩ = some (.string a) ∧ W.cell? ⟨B, 1, none⟩ = some (.string b) ∧ W.cell? ⟨B, 2, none⟩ = some (.string cc) ∧ W.cell? ⟨B, 3, none⟩ = some (.string d) ∧ W.cell? ⟨B, 4, none⟩ = some (.string e) from
    ⟨strAt5 h hB 0 (by simp) W hb, strAt5 h hB 1 (by simp) W hb, strAt5 h hB 2 (by simp) W hb, strAt5 h hB 3 (by simp) W hb, strAt5 h hB 4 (by simp) W hb⟩)
  have hb1 : b.size ≤ 1000000 := hsz b (by simp)
  have hb2 : cc.size ≤ 1000000 := hsz cc (by simp)
  have hb3 : d.size ≤ 1000000 := hsz d (by simp)
  have HRD := Lib.hid (@covRd_five a b cc d e)
  clear h hsz
  obtain ⟨q0, q1, q2, q3, q4⟩ := HCE.out _ HB1.out
  go_enter Tryz.func107, Tryz.ntmps107
  go_upto_region 1 with (fail)
  generalize w.alloc (.cells #[.int .i64 0, .int .i64 0, .int .i64 0, .bool false] 127) = w1 at *
  go_cut [30] (fun x wx => ∃ bb : Bool, x = .bool bb ∧ wx = w1 ∧ Hid (bb = false ↔ cvHead a e))
  case first =>
    by_cases ha : a = coverWd
    case neg =>
      have hab : (a.toList == [99, 111, 118, 101, 114]) = false := (beqL a _).trans (decide_eq_false ha)
      have HI := Lib.hid (show ¬ cvHead a e from fun h => absurd h.1 ha)
      clear ha
      go_wp2
      go_meet
      exact ⟨true, rfl, rfl, ⟨fun h => (by cases h), fun h => absurd h HI.out⟩⟩
    have hab : (a.toList == [99, 111, 118, 101, 114]) = true := (beqL a _).trans (decide_eq_true ha)
    by_cases he : e = onT
    · have heb : (e.toList == [111, 110]) = true := (beqL e _).trans (decide_eq_true he)
      have HI := Lib.hid (show cvHead a e from ⟨ha, .inl he⟩)
      clear ha he
      go_wp2
      go_meet
      exact ⟨false, by first | rfl | simp, rfl, ⟨fun _ => HI.out, fun _ => rfl⟩⟩
    have heb : (e.toList == [111, 110]) = false := (beqL e _).trans (decide_eq_false he)
    by_cases hf : e = offT
    · have hfb : (e.toList == [111, 102, 102]) = true := (beqL e _).trans (decide_eq_true hf)
      have HI := Lib.hid (show cvHead a e from ⟨ha, .inr hf⟩)
      clear ha he hf
      go_wp2
      go_meet
      exact ⟨false, by first | rfl | simp, rfl, ⟨fun _ => HI.out, fun _ => rfl⟩⟩
    · have hfb : (e.toList == [111, 102, 102]) = false := (beqL e _).trans (decide_eq_false hf)
      have HI := Lib.hid (show ¬ cvHead a e from fun h => absurd h.2 (fun h => h.elim he hf))
      clear ha he hf
      go_wp2
      go_meet
      exact ⟨true, by first | rfl | simp, rfl, ⟨fun h => (by cases h), fun h => absurd h HI.out⟩⟩
  case rest =>
  obtain ⟨bb, rfl, rfl, HI⟩ := hcut
  cases bb with
  | true =>
    have HE := Lib.hid (HRD.out.trans (if_neg (fun h => by have := HI.out.2 h; cases this)))
    have hq := HKP.out _ (Below.refl _ _)
    obtain ⟨y0, y1, y2, y3, y4⟩ := hq.1
    have HB := Lib.hid hq.2
    clear hq HKP HBK HCE
    go_wp2
    refine ⟨rfl, .tuple #[.agg #[.int .i64 0, .int .i64 0, .int .i64 0, .bool false], .bool false], (by rw [results_cell_tmp rfl]; go_simp), ?_⟩
    refine CvP.no HE.out zeroCv rfl ?_
    repeat (first | exact HB.out | refine Below.drew ?_ | refine Below.setCell ?_ (by first | exact Nat.le_refl _ | (dsimp only; omega)) _)
  | false =>
  have hh := HI.out.1 rfl
  obtain ⟨on, hon⟩ : ∃ on : Bool, decide (e = onT) = on := ⟨_, rfl⟩
  have he1 : (e.toList == [111, 110]) = on := (beqL e _).trans hon
  have HE2 := Lib.hid (show covRd [a, b, cc, d, e] = cvMk on (nmRd b) (nmRd cc) (nmRd d) by rw [HRD.out, if_pos hh, hon])
  clear hh hon HRD HI
  have HSG := Lib.hid (fun (s : ByteArray) (W : World) (h : s.size ≤ 1000000) (hb : Below wc.heap.size wc W) => signed_c s W h (HL.out.below (HB1.out.trans (hb.mono HB1.out.size)) (Nat.le_refl _)))
  have HS1 := Lib.hid (HSG.out b wc hb1 (Below.refl _ _))
  go_wp2_with fail
  refine HS1.out.mono ?_
  rintro e1 w2 ⟨n1, o1, hp1, rfl, hb2'⟩
  have HN1 := Lib.hid (nmRd_of hp1)
  have HB2 := Lib.hid hb2'
  clear hp1 hb2' HS1 q0 q1 q2 q3 q4
  obtain ⟨q0, q1, q2, q3, q4⟩ := HCE.out _ (HB1.out.trans (HB2.out.mono HB1.out.size))
  have HS2 := Lib.hid (HSG.out cc w2 hb2 HB2.out)
  go_wp2_with fail
  refine HS2.out.mono ?_
  rintro e2 w3 ⟨n2, o2, hp2, rfl, hb3'⟩
  have HN2 := Lib.hid (nmRd_of hp2)
  have HB3 := Lib.hid (HB2.out.trans (hb3'.mono HB2.out.size))
  clear hp2 hb3' HS2 q0 q1 q2 q3 q4 HB2
  obtain ⟨q0, q1, q2, q3, q4⟩ := HCE.out _ (HB1.out.trans (HB3.out.mono HB1.out.size))
  have HS3 := Lib.hid (HSG.out d w3 hb3 HB3.out)
  go_wp2_with fail
  refine HS3.out.mono ?_
  rintro e3 w4 ⟨n3, o3, hp3, rfl, hb4'⟩
  have HN3 := Lib.hid (nmRd_of hp3)
  have HB4 := Lib.hid (HB3.out.trans (hb4'.mono HB3.out.size))
  clear hp3 hb4' HS3 q0 q1 q2 q3 q4 HB3
  obtain ⟨q0, q1, q2, q3, q4⟩ := HCE.out _ (HB1.out.trans (HB4.out.mono HB1.out.size))
  have hq := HKP.out _ HB4.out
  obtain ⟨y0, y1, y2, y3, y4⟩ := hq.1
  have HB := Lib.hid hq.2
  have HFIN := Lib.hid (show covRd [a, b, cc, d, e] = bif (o1 && o2 && o3) then some ⟨n1, n2, n3, on⟩ else none by
    rw [HE2.out, HN1.out, HN2.out, HN3.out]
    cases o1 <;> cases o2 <;> cases o3 <;> rfl)
  have hzw : w.heap.size < w4.heap.size := Nat.lt_of_lt_of_le hz1 HB4.out.size
  clear hq HKP HBK HCE HN1 HN2 HN3 HE2 HSG HB4 HB1
  cases o1 with
  | false =>
    go_wp2
    refine ⟨rfl, .tuple #[.agg #[.int .i64 n1, .int .i64 n2, .int .i64 n3, .bool on], .bool false], (by rw [results_cell_tmp rfl]; go_simp), ?_⟩
    refine CvP.no HFIN.out ⟨n1, n2, n3, on⟩ rfl ?_
    repeat (first | exact HB.out | refine Below.drew ?_ | refine Below.setCell ?_ (by first | exact Nat.le_refl _ | (dsimp only; omega)) _)
  | true =>
    cases o2 with
    | false =>
      go_wp2
      refine ⟨rfl, .tuple #[.agg #[.int .i64 n1, .int .i64 n2, .int .i64 n3, .bool on], .bool false], (by rw [results_cell_tmp rfl]; go_simp), ?_⟩
      refine CvP.no HFIN.out ⟨n1, n2, n3, on⟩ rfl ?_
      repeat (first | exact HB.out | refine Below.drew ?_ | refine Below.setCell ?_ (by first | exact Nat.le_refl _ | (dsimp only; omega)) _)
    | true =>
      go_wp2
      refine ⟨rfl, .tuple #[.agg #[.int .i64 n1, .int .i64 n2, .int .i64 n3, .bool on], .bool o3], (by rw [results_cell_tmp rfl]; go_simp), ?_⟩
      refine ⟨⟨n1, n2, n3, on⟩, o3, rfl, HFIN.out, ?_⟩
      repeat (first | exact HB.out | refine Below.drew ?_ | refine Below.setCell ?_ (by first | exact Nat.le_refl _ | (dsimp only; omega)) _)
end Go.Proofs.YtihkkaeoijheoaaGreatDoor

/- The program's reader of the line of a take, walked. -/
namespace Go.Proofs.YtihkkaeoijheoaaGreatDoor
set_option linter.unusedVariables false
open Go.RowKit Go.Sort

/-- A line of a take read: the take where it is right. -/
def TkP (l : List ByteArray) (w : World) (e : Ending) (w' : World) : Prop :=
  ∃ (x : Tk) (ok : Bool), x.covers = [] ∧ e = .returned (.tuple #[.agg (tkCs x none 0 0), .bool ok]) ∧ takeRd l = (bif ok then some x else none) ∧ Below w.heap.size w w'
open Classical in
theorem takeRd_seven {a b c d e f g : ByteArray} : takeRd [a, b, c, d, e, f, g] = if tkHead a c f g then tkMk c f (decide (g = goodT)) (slRd b) (nmRd d) (nmRd e) else none := by
  unfold takeRd
  rfl
def zeroTk : Tk := ⟨⟨#[]⟩, ⟨#[]⟩, 0, ⟨#[]⟩, ⟨#[]⟩, 0, 0, false, []⟩
theorem dash_yes {f : ByteArray} (h : (f.toList == [45]) = true) : dashS f = ⟨#[]⟩ := by
  rw [beqL] at h
  exact if_pos (of_decide_eq_true h)
theorem dash_no {f : ByteArray} (h : (f.toList == [45]) = false) : dashS f = f := by
  rw [beqL] at h
  exact if_neg (of_decide_eq_false h)
set_option maxRecDepth 100000 in
set_option maxHeartbeats 1000000 in
theorem takeLine_c (B c0 : Nat) (l : List ByteArray) (w : World) (h : Sli strR w (fun b => b = B) l (.slice (some ⟨B, 0, none⟩) l.length c0)) (hB : B < w.heap.size) (hsz : ∀ x ∈ l, x.size ≤ 1000000) (hl : ErrsLaid w) :
    Calls Tryz.prog 108 #[.slice (some ⟨B, 0, none⟩) l.length c0] w (TkP l w) := by
  have HL := Lib.hid hl
  clear hl
  have hB1 := (Below.refl w.heap.size w).alloc (Nat.le_refl _) (.cells #[.string ⟨#[]⟩, .string ⟨#[]⟩, .int .i64 0, .string ⟨#[]⟩, .string ⟨#[]⟩, .int .i64 0, .int .i64 0, .bool false, .slice none 0 0] 125)
  have HB1 := Lib.hid hB1
  have hz1 : w.heap.size < (w.alloc (.cells #[.string ⟨#[]⟩, .string ⟨#[]⟩, .int .i64 0, .string ⟨#[]⟩, .string ⟨#[]⟩, .int .i64 0, .int .i64 0, .bool false, .slice none 0 0] 125)).heap.size := by simp
  have HKP := Lib.hid (fun (W : World) (hb : Below (w.alloc (.cells #[.string ⟨#[]⟩, .string ⟨#[]⟩, .int .i64 0, .string ⟨#[]⟩, .string ⟨#[]⟩, .int .i64 0, .int .i64 0, .bool false, .slice none 0 0] 125)).heap.size (w.alloc (.cells #[.string ⟨#[]⟩, .string ⟨#[]⟩, .int .i64 0, .string ⟨#[]⟩, .string ⟨#[]⟩, .int .i64 0, .int .i64 0, .bool false, .slice none 0 0] 125)) W) => show ((W.cell? ⟨w.heap.size, 0, none⟩ = some (.string ⟨#[]⟩) ∧ W.cell? ⟨w.heap.size, 1, none⟩ = some (.string ⟨#[]⟩) ∧ W.cell? ⟨w.heap.size, 2, none⟩ = some (.int .i64 0) ∧ W.cell? ⟨w.heap.size, 3, none⟩ = some (.string ⟨#[]⟩) ∧ W.cell? ⟨w.heap.size, 4, none⟩ = some (.string ⟨#[]⟩) ∧ W.cell? ⟨w.heap.size, 5, none⟩ = some (.int .i64 0) ∧ W.cell? ⟨w.heap.size, 6, none⟩ = some (.int .i64 0) ∧ W.cell? ⟨w.heap.size, 7, none⟩ = some (.bool false) ∧ W.cell? ⟨w.heap.size, 8, none⟩ = some (.slice none 0 0)) ∧ ∀ i, W.frozen? ⟨w.heap.size, i, none⟩ = false) ∧ Below w.heap.size w W from
    have h := (hb.block w.heap.size (by simp)).trans (heap_alloc_new w _)
    ⟨⟨tk_cells (x := zeroTk) (A := none) (n := 0) (c := 0) h, (str_cells h).2⟩, hB1.trans (hb.mono hB1.size)⟩)
  clear hB1
  by_cases h7 : l.length = 7
  case neg =>
    have HE := Lib.hid (takeRd_len h7)
    have e6 : ((l.length : Int) != 7) = true := by rw [bne_iff_ne]; omega
    have hq := HKP.out _ (Below.refl _ _)
    obtain ⟨⟨y0, y1, y2, y3, y4, y5, y6, y7, y8⟩, yz⟩ := hq.1
    have HB := Lib.hid hq.2
    generalize l.length = n at *
    clear h7 h hsz hq HKP
    go_enter Tryz.func108, Tryz.ntmps108
    go_upto_region 1 with (fail)
    generalize w.alloc (.cells #[.string ⟨#[]⟩, .string ⟨#[]⟩, .int .i64 0, .string ⟨#[]⟩, .string ⟨#[]⟩, .int .i64 0, .int .i64 0, .bool false, .slice none 0 0] 125) = w1 at *
    go_wp2
    refine ⟨rfl, .tuple #[.agg #[.string ⟨#[]⟩, .string ⟨#[]⟩, .int .i64 0, .string ⟨#[]⟩, .string ⟨#[]⟩, .int .i64 0, .int .i64 0, .bool false, .slice none 0 0], .bool false], (by rw [results_cell_tmp rfl]; go_simp), ?_⟩
    refine ⟨zeroTk, false, rfl, rfl, HE.out, ?_⟩
    repeat (first | with_reducible exact HB.out | with_reducible refine Below.drew ?_ | with_reducible refine Below.setCell ?_ (by first | exact Nat.le_refl _ | (dsimp only; omega)) _)
  obtain ⟨a, b, c, d, e, f, g, rfl⟩ := seven_eq h7
  rw [show ([a, b, c, d, e, f, g] : List ByteArray).length = 7 from rfl] at h ⊢
  clear h7
  have HCE := Lib.hid (fun (W : World) (hb : Below w.heap.size w W) => show W.cell? ⟨B, 0, none⟩ = some (.string a) ∧ W.cell? ⟨B, 1, none⟩ = some (.string b) ∧ W.cell? ⟨B, 2, none⟩ = some (.string c) ∧ W.cell? ⟨B, 3, none⟩ = some (.string d) ∧ W.cell? ⟨B, 4, none⟩ = some (.string e) ∧ W.cell? ⟨B, 5, none⟩ = some (.string f) ∧ W.cell? ⟨B, 6, none⟩ = some (.string g) from
    ⟨strAt5 h hB 0 (by simp) W hb, strAt5 h hB 1 (by simp) W hb, strAt5 h hB 2 (by simp) W hb, strAt5 h hB 3 (by simp) W hb, strAt5 h hB 4 (by simp) W hb, strAt5 h hB 5 (by simp) W hb, strAt5 h hB 6 (by simp) W hb⟩)
  have hb1 : b.size ≤ 1000000 := hsz b (by simp)
  have hb2 : d.size ≤ 1000000 := hsz d (by simp)
  have hb3 : e.size ≤ 1000000 := hsz e (by simp)
  have HRD := Lib.hid (@takeRd_seven a b c d e f g)
  clear h hsz
  obtain ⟨q0, q1, q2, q3, q4, q5, q6⟩ := HCE.out _ HB1.out
  go_enter Tryz.func108, Tryz.ntmps108
  go_upto_region 1 with (fail)
  generalize w.alloc (.cells #[.string ⟨#[]⟩, .string ⟨#[]⟩, .int .i64 0, .string ⟨#[]⟩, .string ⟨#[]⟩, .int .i64 0, .int .i64 0, .bool false, .slice none 0 0] 125) = w1 at *
  go_cut [45] (fun x wx => ∃ bb : Bool, x = .bool bb ∧ wx = w1 ∧ Hid (bb = false ↔ tkHead a c f g))
  case first =>
    by_cases ha : a = takeWd
    case neg =>
      have hab : (a.toList == [116, 97, 107, 101]) = false := (beqL a _).trans (decide_eq_false ha)
      have HI := Lib.hid (show ¬ tkHead a c f g from fun h => absurd h.1 ha)
      clear ha
      go_wp2
      go_meet
      exact ⟨true, by first | rfl | simp, rfl, ⟨fun h => (by cases h), fun h => absurd h HI.out⟩⟩
    have hab : (a.toList == [116, 97, 107, 101]) = true := (beqL a _).trans (decide_eq_true ha)
    cases hc : c.toList.isEmpty with
    | true =>
      have HI := Lib.hid (show ¬ tkHead a c f g from fun h => absurd ((empty_iff c).1 hc) h.2.1)
      clear ha
      go_wp2
      go_meet
      exact ⟨true, by first | rfl | simp, rfl, ⟨fun h => (by cases h), fun h => absurd h HI.out⟩⟩
    | false =>
    have hce : ¬ c = ⟨#[]⟩ := fun h => by rw [(empty_iff c).2 h] at hc; cases hc
    cases hf : f.toList.isEmpty with
    | true =>
      have HI := Lib.hid (show ¬ tkHead a c f g from fun h => absurd ((empty_iff f).1 hf) h.2.2.1)
      clear ha hce
      go_wp2
      go_meet
      exact ⟨true, by first | rfl | simp, rfl, ⟨fun h => (by cases h), fun h => absurd h HI.out⟩⟩
    | false =>
    have hfe : ¬ f = ⟨#[]⟩ := fun h => by rw [(empty_iff f).2 h] at hf; cases hf
    by_cases hg : g = goodT
    · have hgb : (g.toList == [103, 111, 111, 100]) = true := (beqL g _).trans (decide_eq_true hg)
      have HI := Lib.hid (show tkHead a c f g from ⟨ha, hce, hfe, .inl hg⟩)
      clear ha hce hfe hg
      go_wp2
      go_meet
      exact ⟨false, by first | rfl | simp, rfl, ⟨fun _ => HI.out, fun _ => rfl⟩⟩
    have hgb : (g.toList == [103, 111, 111, 100]) = false := (beqL g _).trans (decide_eq_false hg)
    by_cases hg2 : g = badT
    · have hgb2 : (g.toList == [98, 97, 100]) = true := (beqL g _).trans (decide_eq_true hg2)
      have HI := Lib.hid (show tkHead a c f g from ⟨ha, hce, hfe, .inr hg2⟩)
      clear ha hce hfe hg hg2
      go_wp2
      go_meet
      exact ⟨false, by first | rfl | simp, rfl, ⟨fun _ => HI.out, fun _ => rfl⟩⟩
    · have hgb2 : (g.toList == [98, 97, 100]) = false := (beqL g _).trans (decide_eq_false hg2)
      have HI := Lib.hid (show ¬ tkHead a c f g from fun h => absurd h.2.2.2 (fun h => h.elim hg hg2))
      clear ha hce hfe hg hg2
      go_wp2
      go_meet
      exact ⟨true, by first | rfl | simp, rfl, ⟨fun h => (by cases h), fun h => absurd h HI.out⟩⟩
  case rest =>
  obtain ⟨bb, rfl, rfl, HI⟩ := hcut
  cases bb with
  | true =>
    have HE := Lib.hid (HRD.out.trans (if_neg (fun h => by have := HI.out.2 h; cases this)))
    have hq := HKP.out _ (Below.refl _ _)
    obtain ⟨⟨y0, y1, y2, y3, y4, y5, y6, y7, y8⟩, yz⟩ := hq.1
    have HB := Lib.hid hq.2
    clear hq HKP HCE
    go_wp2
    refine ⟨rfl, .tuple #[.agg #[.string ⟨#[]⟩, .string ⟨#[]⟩, .int .i64 0, .string ⟨#[]⟩, .string ⟨#[]⟩, .int .i64 0, .int .i64 0, .bool false, .slice none 0 0], .bool false], (by rw [results_cell_tmp rfl]; go_simp), ?_⟩
    refine ⟨zeroTk, false, rfl, rfl, HE.out, ?_⟩
    repeat (first | with_reducible exact HB.out | with_reducible refine Below.drew ?_ | with_reducible refine Below.setCell ?_ (by first | exact Nat.le_refl _ | (dsimp only; omega)) _)
  | false =>
  have hh := HI.out.1 rfl
  obtain ⟨good, hgo⟩ : ∃ good : Bool, decide (g = goodT) = good := ⟨_, rfl⟩
  have hg1 : (g.toList == [103, 111, 111, 100]) = good := (beqL g _).trans hgo
  have HE2 := Lib.hid (show takeRd [a, b, c, d, e, f, g] = tkMk c f good (slRd b) (nmRd d) (nmRd e) by rw [HRD.out, if_pos hh, hgo])
  clear hh hgo HRD HI
  have HEL := Lib.hid (fun (W : World) (hb : Below wc.heap.size wc W) => show ErrsLaid W from HL.out.below (HB1.out.trans (hb.mono HB1.out.size)) (Nat.le_refl _))
  have HS1 := Lib.hid (ReadSlate_c b wc (by omega) (HEL.out _ (Below.refl _ _)))
  go_wp2_with fail
  refine HS1.out.mono ?_
  rintro e1 w2 ⟨sc, se, nn, o1, hp1, rfl, hb2'⟩
  have HN1 := Lib.hid (slRd_of hp1)
  have HB2 := Lib.hid hb2'
  clear hp1 hb2' HS1 q0 q1 q2 q3 q4 q5 q6
  obtain ⟨q0, q1, q2, q3, q4, q5, q6⟩ := HCE.out _ (HB1.out.trans (HB2.out.mono HB1.out.size))
  have HS2 := Lib.hid (signed_c d w2 hb2 (HEL.out _ HB2.out))
  go_wp2_with fail
  refine HS2.out.mono ?_
  rintro e2 w3 ⟨n2, o2, hp2, rfl, hb3'⟩
  have HN2 := Lib.hid (nmRd_of hp2)
  have HB3 := Lib.hid (HB2.out.trans (hb3'.mono HB2.out.size))
  clear hp2 hb3' HS2 q0 q1 q2 q3 q4 q5 q6 HB2
  obtain ⟨q0, q1, q2, q3, q4, q5, q6⟩ := HCE.out _ (HB1.out.trans (HB3.out.mono HB1.out.size))
  have HS3 := Lib.hid (signed_c e w3 hb3 (HEL.out _ HB3.out))
  go_wp2_with fail
  refine HS3.out.mono ?_
  rintro e3 w4 ⟨n3, o3, hp3, rfl, hb4'⟩
  have HN3 := Lib.hid (nmRd_of hp3)
  have HB4 := Lib.hid (HB3.out.trans (hb4'.mono HB3.out.size))
  clear hp3 hb4' HS3 q0 q1 q2 q3 q4 q5 q6 HB3
  obtain ⟨q0, q1, q2, q3, q4, q5, q6⟩ := HCE.out _ (HB1.out.trans (HB4.out.mono HB1.out.size))
  have hq := HKP.out _ HB4.out
  obtain ⟨⟨y0, y1, y2, y3, y4, y5, y6, y7, y8⟩, yz⟩ := hq.1
  have HB := Lib.hid hq.2
  have HFIN := Lib.hid (show takeRd [a, b, c, d, e, f, g] = bif (o1 && o2 && o3) then some ⟨bif o1 then sc else ⟨#[]⟩, bif o1 then se else ⟨#[]⟩, bif o1 then nn else 0, c, dashS f, n2, n3, good, []⟩ else none by
    rw [HE2.out, HN1.out, HN2.out, HN3.out]
    cases o1 <;> cases o2 <;> cases o3 <;> rfl)
  obtain ⟨x1, hx1⟩ : ∃ x, (bif o1 then sc else ⟨#[]⟩ : ByteArray) = x := ⟨_, rfl⟩
  obtain ⟨x2, hx2⟩ : ∃ x, (bif o1 then se else ⟨#[]⟩ : ByteArray) = x := ⟨_, rfl⟩
  obtain ⟨x3, hx3⟩ : ∃ x, (bif o1 then nn else 0 : Int) = x := ⟨_, rfl⟩
  rw [hx1, hx2, hx3] at HFIN
  rw [hx1, hx2, hx3]
  have hzw : w.heap.size < w4.heap.size := Nat.lt_of_lt_of_le hz1 HB4.out.size
  have hBw : B < w4.heap.size := by omega
  clear hx1 hx2 hx3 HCE HN1 HN2 HN3 HE2 HEL hq y0 y1 y2 y3 y4 y5 y6 y7 y8 yz
  go_upto_region 6 with (fail)
  go_region
  have hB5 : Below wc.heap.size wc (w4.alloc (.cells #[.string x1, .string x2, .int .i64 x3, .string c, .string f, .int .i64 n2, .int .i64 n3, .bool good, .slice none 0 0] 125)).drew := (HB4.out.alloc HB4.out.size _).drew
  have HT := Lib.hid (show (w4.alloc (.cells #[.string x1, .string x2, .int .i64 x3, .string c, .string f, .int .i64 n2, .int .i64 n3, .bool good, .slice none 0 0] 125)).drew.heap[w4.heap.size]? = some (.cells #[.string x1, .string x2, .int .i64 x3, .string c, .string f, .int .i64 n2, .int .i64 n3, .bool good, .slice none 0 0] 125 (0, 0)) from heap_alloc_new w4 _)
  have hz5 : w4.heap.size < (w4.alloc (.cells #[.string x1, .string x2, .int .i64 x3, .string c, .string f, .int .i64 n2, .int .i64 n3, .bool good, .slice none 0 0] 125)).drew.heap.size := by show _ < (w4.alloc _).heap.size; simp
  generalize (w4.alloc (.cells #[.string x1, .string x2, .int .i64 x3, .string c, .string f, .int .i64 n2, .int .i64 n3, .bool good, .slice none 0 0] 125)).drew = w5 at *
  have hq := HKP.out _ hB5
  obtain ⟨⟨y0, y1, y2, y3, y4, y5, y6, y7, y8⟩, yz⟩ := hq.1
  have HBF := Lib.hid hq.2
  have hzb : w.heap.size < w5.heap.size := by omega
  generalize w4.heap.size = Y at *
  obtain ⟨z, zz⟩ := str_cells HT.out
  have z4 : w5.cell? ⟨Y, 4, none⟩ = some (.string f) := z 4
  clear hq HKP hB5 HB HB4 HB1 z q0 q1 q2 q3 q4 q5 q6
  cases hd : (f.toList == [45]) with
  | false =>
    have HDA := Lib.hid (dash_no hd)
    go_upto_region 9 with (fail)
    clear z4 zz hd
    have HFI2 := Lib.hid (show takeRd [a, b, c, d, e, f, g] = bif (o1 && o2 && o3) then some ⟨x1, x2, x3, c, f, n2, n3, good, []⟩ else none by rw [HFIN.out, HDA.out])
    obtain ⟨z0, z1, z2, z3, z4, z5, z6, z7, z8⟩ := tk_cells (x := ⟨x1, x2, x3, c, f, n2, n3, good, []⟩) (A := none) (n := 0) (c := 0) HT.out
    dsimp only at z0 z1 z2 z3 z4 z5 z6 z7 z8
    clear HFIN HDA HT
    cases o1 with
    | false =>
      have he9 : ((9 : Int) == 0) = false := rfl
      go_wp2
      refine ⟨rfl, .tuple #[.agg #[.string x1, .string x2, .int .i64 x3, .string c, .string f, .int .i64 n2, .int .i64 n3, .bool good, .slice none 0 0], .bool false], (by rw [results_cell_tmp rfl]; go_simp), ?_⟩
      refine ⟨⟨x1, x2, x3, c, f, n2, n3, good, []⟩, false, rfl, rfl, HFI2.out, ?_⟩
      repeat (first | with_reducible exact HBF.out | with_reducible refine Below.drew ?_ | with_reducible refine Below.setCell ?_ (by first | exact Nat.le_refl _ | (dsimp only; omega)) _)
    | true =>
      have he0 : ((0 : Int) == 0) = true := rfl
      cases o2 with
      | false =>
        go_wp2
        refine ⟨rfl, .tuple #[.agg #[.string x1, .string x2, .int .i64 x3, .string c, .string f, .int .i64 n2, .int .i64 n3, .bool good, .slice none 0 0], .bool false], (by rw [results_cell_tmp rfl]; go_simp), ?_⟩
        refine ⟨⟨x1, x2, x3, c, f, n2, n3, good, []⟩, false, rfl, rfl, HFI2.out, ?_⟩
        repeat (first | with_reducible exact HBF.out | with_reducible refine Below.drew ?_ | with_reducible refine Below.setCell ?_ (by first | exact Nat.le_refl _ | (dsimp only; omega)) _)
      | true =>
        go_wp2
        refine ⟨rfl, .tuple #[.agg #[.string x1, .string x2, .int .i64 x3, .string c, .string f, .int .i64 n2, .int .i64 n3, .bool good, .slice none 0 0], .bool o3], (by rw [results_cell_tmp rfl]; go_simp), ?_⟩
        refine ⟨⟨x1, x2, x3, c, f, n2, n3, good, []⟩, o3, rfl, rfl, HFI2.out, ?_⟩
        repeat (first | with_reducible exact HBF.out | with_reducible refine Below.drew ?_ | with_reducible refine Below.setCell ?_ (by first | exact Nat.le_refl _ | (dsimp only; omega)) _)
  | true =>
    have HDA := Lib.hid (dash_yes hd)
    go_upto_region 9 with (fail)
    have HT2 := Lib.hid (show (w5.setCell ⟨Y, 4, none⟩ (.string ⟨#[]⟩)).heap[Y]? = some (.cells #[.string x1, .string x2, .int .i64 x3, .string c, .string ⟨#[]⟩, .int .i64 n2, .int .i64 n3, .bool good, .slice none 0 0] 125 (0, 0)) by
      have h := HT.out
      simp [World.setCell, Array.getElem?_modify, h])
    have hne : ∀ i u, (w5.cell? ⟨w.heap.size, i, none⟩ = some u) → (w5.setCell ⟨Y, 4, none⟩ (.string ⟨#[]⟩)).cell? ⟨w.heap.size, i, none⟩ = some u := fun i u h => (World.cell?_setCell_other _ _ _ _ (fun e => by have := congrArg Addr.block e; dsimp only at this; omega)).trans h
    have y0 := hne _ _ y0
    have y1 := hne _ _ y1
    have y2 := hne _ _ y2
    have y3 := hne _ _ y3
    have y4 := hne _ _ y4
    have y5 := hne _ _ y5
    have y6 := hne _ _ y6
    have y7 := hne _ _ y7
    have y8 := hne _ _ y8
    have yz : ∀ i, (w5.setCell ⟨Y, 4, none⟩ (.string ⟨#[]⟩)).frozen? ⟨w.heap.size, i, none⟩ = false := fun i => (frozen_setCell w5 _ _ _).trans (yz i)
    have HBF := Lib.hid (HBF.out.setCell (p := ⟨Y, 4, none⟩) (by show w.heap.size ≤ Y; omega) (.string ⟨#[]⟩))
    have hzb : w.heap.size < (w5.setCell ⟨Y, 4, none⟩ (.string ⟨#[]⟩)).heap.size := by simpa [World.setCell] using hzb
    have hz5 : Y < (w5.setCell ⟨Y, 4, none⟩ (.string ⟨#[]⟩)).heap.size := by simpa [World.setCell] using hz5
    generalize w5.setCell ⟨Y, 4, none⟩ (.string ⟨#[]⟩) = w6 at *
    have HT := HT2
    clear z4 zz hd hne HT2
    have HFI2 := Lib.hid (show takeRd [a, b, c, d, e, f, g] = bif (o1 && o2 && o3) then some ⟨x1, x2, x3, c, ⟨#[]⟩, n2, n3, good, []⟩ else none by rw [HFIN.out, HDA.out])
    obtain ⟨z0, z1, z2, z3, z4, z5, z6, z7, z8⟩ := tk_cells (x := ⟨x1, x2, x3, c, ⟨#[]⟩, n2, n3, good, []⟩) (A := none) (n := 0) (c := 0) HT.out
    dsimp only at z0 z1 z2 z3 z4 z5 z6 z7 z8
    clear HFIN HDA HT
    cases o1 with
    | false =>
      have he9 : ((9 : Int) == 0) = false := rfl
      go_wp2
      refine ⟨rfl, .tuple #[.agg #[.string x1, .string x2, .int .i64 x3, .string c, .string ⟨#[]⟩, .int .i64 n2, .int .i64 n3, .bool good, .slice none 0 0], .bool false], (by rw [results_cell_tmp rfl]; go_simp), ?_⟩
      refine ⟨⟨x1, x2, x3, c, ⟨#[]⟩, n2, n3, good, []⟩, false, rfl, rfl, HFI2.out, ?_⟩
      repeat (first | with_reducible exact HBF.out | with_reducible refine Below.drew ?_ | with_reducible refine Below.setCell ?_ (by first | exact Nat.le_refl _ | (dsimp only; omega)) _)
    | true =>
      have he0 : ((0 : Int) == 0) = true := rfl
      cases o2 with
      | false =>
        go_wp2
        refine ⟨rfl, .tuple #[.agg #[.string x1, .string x2, .int .i64 x3, .string c, .string ⟨#[]⟩, .int .i64 n2, .int .i64 n3, .bool good, .slice none 0 0], .bool false], (by rw [results_cell_tmp rfl]; go_simp), ?_⟩
        refine ⟨⟨x1, x2, x3, c, ⟨#[]⟩, n2, n3, good, []⟩, false, rfl, rfl, HFI2.out, ?_⟩
        repeat (first | with_reducible exact HBF.out | with_reducible refine Below.drew ?_ | with_reducible refine Below.setCell ?_ (by first | exact Nat.le_refl _ | (dsimp only; omega)) _)
      | true =>
        go_wp2
        refine ⟨rfl, .tuple #[.agg #[.string x1, .string x2, .int .i64 x3, .string c, .string ⟨#[]⟩, .int .i64 n2, .int .i64 n3, .bool good, .slice none 0 0], .bool o3], (by rw [results_cell_tmp rfl]; go_simp), ?_⟩
        refine ⟨⟨x1, x2, x3, c, ⟨#[]⟩, n2, n3, good, []⟩, o3, rfl, rfl, HFI2.out, ?_⟩
        repeat (first | with_reducible exact HBF.out | with_reducible refine Below.drew ?_ | with_reducible refine Below.setCell ?_ (by first | exact Nat.le_refl _ | (dsimp only; omega)) _)
end Go.Proofs.YtihkkaeoijheoaaGreatDoor

/- The reference's numbers of a line of takes, walked. -/
namespace Go.Proofs.YtihkkaeoijheoaaGreatDoor
set_option linter.unusedVariables false
open Go.RowKit Go.Sort

noncomputable def nmsRd : List ByteArray → Option (List Int)
  | [] => some []
  | s :: r => (nmRd s).bind fun n => (nmsRd r).map fun l => n :: l
def NsP (l : List ByteArray) (w : World) (e : Ending) (w' : World) : Prop :=
  ∃ v ns ok, e = .returned (.tuple #[v, .bool ok]) ∧ Below w.heap.size w w' ∧ Own intR w' w.heap.size w.heap.size 3 ns v ∧ nmsRd l = (bif ok then some ns else none)
set_option maxRecDepth 100000 in
set_option maxHeartbeats 1000000 in
theorem numbersOf_c {F : Nat → Prop} (l : List ByteArray) (v : Value) (w : World) (h : Sli strR w F l v) (hF : ∀ b, F b → b < w.heap.size) (hl : l.length ≤ 10) (hsz : ∀ x ∈ l, x.size ≤ 1000000) (he : ErrsLaid w) (hp : PowLaid w) :
    Calls Tryz.prog 110 #[v] w (NsP l w) := by
  obtain ⟨i0, hi0, hz0, hz1, hz2⟩ := info_parts (show (Tryz.prog.info? 3).map (fun i => (i.zero, i.size, i.bytes)) = some (some (.int .i64 0), 1, 8) by kernel_rfl)
  obtain ⟨A, c, rfl, hlc, hcm⟩ := h.form
  have HH := Lib.hid h
  have HF := Lib.hid hF
  have HS := Lib.hid hsz
  have HL := Lib.hid he
  have HP := Lib.hid hp
  obtain ⟨n, hn⟩ : ∃ n, l.length = n := ⟨_, rfl⟩
  have HN := Lib.hid hn
  rw [hn] at HH hlc hl ⊢
  have H0 := Lib.hid (BO.start (R := intR) (e := 3) w)
  clear h hF hsz he hp hn
  go_enter Tryz.func110, Tryz.ntmps110
  go_wp2
  go_loopw [4, 11] (fun v i wr => ∃ (k : Nat) (acc : List Int), k ≤ n ∧ i = .int .i64 k ∧ acc.length = k ∧ Hid (BO intR 3 w acc v [] wr) ∧ Hid (nmsRd l = (nmsRd (l.drop k)).map fun r => acc ++ r)) (fun _ i _ => n - (intOf i).toNat)
  case atStart => exact ⟨0, [], Nat.zero_le _, rfl, rfl, H0, by rw [List.drop_zero]; show Hid (_ = Option.map (fun r => r) _); exact Lib.hid (by simp)⟩
  case round =>
    clear H0
    obtain ⟨k, acc, hk, rfl, hacc, HG, HT⟩ := hrel
    by_cases hlt : k < n
    · have hk2 : k < l.length := by rw [HN.out]; exact hlt
      obtain ⟨b, off, rfl, hfb, c0⟩ := strAt (HH.out.below HG.out.bel HF.out) k hk2
      have hs := HS.out _ (List.getElem_mem hk2)
      have HST := Lib.hid (show nmsRd (l.drop k) = (nmRd l[k]).bind fun n => (nmsRd (l.drop (k + 1))).map fun r => n :: r by rw [List.drop_eq_getElem_cons hk2, nmsRd])
      have hbw : b < wr.heap.size := Nat.lt_of_lt_of_le (HF.out b hfb) HG.out.size
      generalize l[k] = s at *
      have HNU := Lib.hid (number_c s 9 wr (by omega) (by omega) (by omega) (HL.out.below HG.out.bel (Nat.le_refl _)) (pow_below HP.out HG.out.bel (Nat.le_refl _)))
      have HAC := Lib.hid hacc
      clear hk2 hacc
      go_wp2_with fail
      refine HNU.out.mono ?_
      rintro e w2 ⟨m, ok, hpm, rfl, hb2⟩
      have HNM := Lib.hid (nmRd_of hpm)
      have HG2 := Lib.hid (HG.out.below hb2)
      have hz2' := HG2.out.size
      clear hpm hb2 HNU HG c0
      cases ok with
      | false =>
        have HE := Lib.hid (show nmsRd l = none by rw [HT.out, HST.out, HNM.out]; rfl)
        go_wp2
        go_ret2
        exact ⟨_, [], false, rfl, HG2.out.bel, Own.nil_, HE.out⟩
      | true =>
        have HE := Lib.hid (show nmsRd l = (nmsRd (l.drop (k + 1))).map fun r => (acc ++ [m]) ++ r by
          rw [HT.out, HST.out, HNM.out]
          cases nmsRd (l.drop (k + 1)) with
          | none => rfl
          | some r => simp)
        have hal : acc.length ≤ 10 := by rw [HAC.out]; omega
        have HAL := Lib.hid hal
        clear hal
        go_wp2_with (at_builtin; (refine wpList_pushI rfl _ _ _ rfl w.heap.size w.heap.size 3 i0 _ 8 Tryz.underlying22 hi0 hz0 (by assumption) (by assumption) rfl _ u4 acc rfl (HG2.out.own.alloc _) [m] (by simp) w2.heap.size _ _ (heap_alloc_new w2 _) rfl (by have := HAL.out; simp [maxLen]; omega) (by have := HAL.out; simp; omega) (by simp; omega) ?_); intro g7 cap7 w7 hown7 hg7 hat7 hlt7)
        go_roundw
        case rel => exact ⟨k + 1, acc ++ [m], by omega, intNum, by rw [List.length_append, HAC.out]; rfl, (HG2.out.alloc (.cells #[.int .i64 m] 3)).more hown7 hg7 rfl hat7, HE⟩
        case measure => simp [intOf]; omega
    · have HE := Lib.hid (show nmsRd l = some acc by
        rw [HT.out, List.drop_eq_nil_of_le (by rw [HN.out]; omega)]
        show Option.map _ (some []) = _
        simp)
      go_wp2
      go_ret2
      exact ⟨_, acc, true, rfl, HG.out.bel, HG.out.own, HE.out⟩
theorem nms_two {a b : ByteArray} {ns : List Int} (h : nmsRd [a, b] = some ns) : ∃ n m, ns = [n, m] ∧ nmRd a = some n ∧ nmRd b = some m := by
  simp only [nmsRd] at h
  cases ha : nmRd a with
  | none => rw [ha] at h; cases h
  | some n =>
    cases hb : nmRd b with
    | none => rw [ha, hb] at h; cases h
    | some m =>
      rw [ha, hb] at h
      simp at h
      exact ⟨n, m, h.symm, rfl, rfl⟩
theorem nms_two_none {a b : ByteArray} (h : nmsRd [a, b] = none) : nmRd a = none ∨ nmRd b = none := by
  simp only [nmsRd] at h
  cases ha : nmRd a with
  | none => exact .inl rfl
  | some n =>
    cases hb : nmRd b with
    | none => exact .inr rfl
    | some m => rw [ha, hb] at h; simp at h
theorem nms_three {a b c : ByteArray} {ns : List Int} (h : nmsRd [a, b, c] = some ns) : ∃ n m k, ns = [n, m, k] ∧ nmRd a = some n ∧ nmRd b = some m ∧ nmRd c = some k := by
  rw [nmsRd] at h
  cases ha : nmRd a with
  | none => rw [ha] at h; cases h
  | some n =>
    rw [ha] at h
    cases hr : nmsRd [b, c] with
    | none => rw [hr] at h; cases h
    | some r =>
      obtain ⟨m, k, rfl, h1, h2⟩ := nms_two hr
      rw [hr] at h
      simp at h
      exact ⟨n, m, k, h.symm, rfl, h1, h2⟩
theorem nms_three_none {on : Bool} {a b c : ByteArray} (h : nmsRd [a, b, c] = none) : cvMk on (nmRd a) (nmRd b) (nmRd c) = none := by
  rw [nmsRd] at h
  cases ha : nmRd a with
  | none => rfl
  | some n =>
    rw [ha] at h
    cases hr : nmsRd [b, c] with
    | none =>
      rcases nms_two_none hr with h2 | h2
      · rw [h2]; rfl
      · rw [h2]; exact cvMk_n3
    | some r => rw [hr] at h; cases h
end Go.Proofs.YtihkkaeoijheoaaGreatDoor

/- The reference's reader of the line of a take, walked. -/
namespace Go.Proofs.YtihkkaeoijheoaaGreatDoor
set_option linter.unusedVariables false
open Go.RowKit Go.Sort

theorem strLay2 {w : World} {F : Nat → Prop} (a b : ByteArray) : Lay strR w F [a, b] [.string a, .string b] := by
  have h := (Lay.one (R := strR) (w := w) (F := F) (x := a) (a := [.string a]) rfl).snoc (x := b) (a := [.string b]) rfl
  exact h
set_option maxRecDepth 100000 in
set_option maxHeartbeats 1000000 in
theorem takeFrom_c (B c0 : Nat) (l : List ByteArray) (w : World) (h : Sli strR w (fun b => b = B) l (.slice (some ⟨B, 0, none⟩) l.length c0)) (hB : B < w.heap.size) (hsz : ∀ x ∈ l, x.size ≤ 1000000) (hl : ErrsLaid w) (hpw : PowLaid w) :
    Calls Tryz.prog 109 #[.slice (some ⟨B, 0, none⟩) l.length c0] w (TkP l w) := by
  have HL := Lib.hid hl
  have HPO := Lib.hid hpw
  clear hl hpw
  have hB1 := (Below.refl w.heap.size w).alloc (Nat.le_refl _) (.cells #[.string ⟨#[]⟩, .string ⟨#[]⟩, .int .i64 0, .string ⟨#[]⟩, .string ⟨#[]⟩, .int .i64 0, .int .i64 0, .bool false, .slice none 0 0] 125)
  have HB1 := Lib.hid hB1
  have hz1 : w.heap.size < (w.alloc (.cells #[.string ⟨#[]⟩, .string ⟨#[]⟩, .int .i64 0, .string ⟨#[]⟩, .string ⟨#[]⟩, .int .i64 0, .int .i64 0, .bool false, .slice none 0 0] 125)).heap.size := by simp
  have HKP := Lib.hid (fun (W : World) (hb : Below (w.alloc (.cells #[.string ⟨#[]⟩, .string ⟨#[]⟩, .int .i64 0, .string ⟨#[]⟩, .string ⟨#[]⟩, .int .i64 0, .int .i64 0, .bool false, .slice none 0 0] 125)).heap.size (w.alloc (.cells #[.string ⟨#[]⟩, .string ⟨#[]⟩, .int .i64 0, .string ⟨#[]⟩, .string ⟨#[]⟩, .int .i64 0, .int .i64 0, .bool false, .slice none 0 0] 125)) W) => show ((W.cell? ⟨w.heap.size, 0, none⟩ = some (.string ⟨#[]⟩) ∧ W.cell? ⟨w.heap.size, 1, none⟩ = some (.string ⟨#[]⟩) ∧ W.cell? ⟨w.heap.size, 2, none⟩ = some (.int .i64 0) ∧ W.cell? ⟨w.heap.size, 3, none⟩ = some (.string ⟨#[]⟩) ∧ W.cell? ⟨w.heap.size, 4, none⟩ = some (.string ⟨#[]⟩) ∧ W.cell? ⟨w.heap.size, 5, none⟩ = some (.int .i64 0) ∧ W.cell? ⟨w.heap.size, 6, none⟩ = some (.int .i64 0) ∧ W.cell? ⟨w.heap.size, 7, none⟩ = some (.bool false) ∧ W.cell? ⟨w.heap.size, 8, none⟩ = some (.slice none 0 0)) ∧ ∀ i, W.frozen? ⟨w.heap.size, i, none⟩ = false) ∧ Below w.heap.size w W from
    have h := (hb.block w.heap.size (by simp)).trans (heap_alloc_new w _)
    ⟨⟨tk_cells (x := zeroTk) (A := none) (n := 0) (c := 0) h, (str_cells h).2⟩, hB1.trans (hb.mono hB1.size)⟩)
  clear hB1
  by_cases h7 : l.length = 7
  case neg =>
    have HE := Lib.hid (takeRd_len h7)
    have e6 : ((l.length : Int) != 7) = true := by rw [bne_iff_ne]; omega
    have hq := HKP.out _ (Below.refl _ _)
    obtain ⟨⟨y0, y1, y2, y3, y4, y5, y6, y7, y8⟩, yz⟩ := hq.1
    have HB := Lib.hid hq.2
    generalize l.length = n at *
    clear h7 h hsz hq HKP
    go_enter Tryz.func109, Tryz.ntmps109
    go_upto_region 1 with (fail)
    generalize w.alloc (.cells #[.string ⟨#[]⟩, .string ⟨#[]⟩, .int .i64 0, .string ⟨#[]⟩, .string ⟨#[]⟩, .int .i64 0, .int .i64 0, .bool false, .slice none 0 0] 125) = w1 at *
    go_wp2
    refine ⟨rfl, .tuple #[.agg #[.string ⟨#[]⟩, .string ⟨#[]⟩, .int .i64 0, .string ⟨#[]⟩, .string ⟨#[]⟩, .int .i64 0, .int .i64 0, .bool false, .slice none 0 0], .bool false], (by rw [results_cell_tmp rfl]; go_simp), ?_⟩
    refine ⟨zeroTk, false, rfl, rfl, HE.out, ?_⟩
    repeat (first | with_reducible exact HB.out | with_reducible refine Below.drew ?_ | with_reducible refine Below.setCell ?_ (by first | exact Nat.le_refl _ | (dsimp only; omega)) _)
  obtain ⟨a, b, c, d, e, f, g, rfl⟩ := seven_eq h7
  rw [show ([a, b, c, d, e, f, g] : List ByteArray).length = 7 from rfl] at h ⊢
  clear h7
  have HCE := Lib.hid (fun (W : World) (hb : Below w.heap.size w W) => show W.cell? ⟨B, 0, none⟩ = some (.string a) ∧ W.cell? ⟨B, 1, none⟩ = some (.string b) ∧ W.cell? ⟨B, 2, none⟩ = some (.string c) ∧ W.cell? ⟨B, 3, none⟩ = some (.string d) ∧ W.cell? ⟨B, 4, none⟩ = some (.string e) ∧ W.cell? ⟨B, 5, none⟩ = some (.string f) ∧ W.cell? ⟨B, 6, none⟩ = some (.string g) from
    ⟨strAt5 h hB 0 (by simp) W hb, strAt5 h hB 1 (by simp) W hb, strAt5 h hB 2 (by simp) W hb, strAt5 h hB 3 (by simp) W hb, strAt5 h hB 4 (by simp) W hb, strAt5 h hB 5 (by simp) W hb, strAt5 h hB 6 (by simp) W hb⟩)
  have hb1 : b.size ≤ 1000000 := hsz b (by simp)
  have hb2 : d.size ≤ 1000000 := hsz d (by simp)
  have hb3 : e.size ≤ 1000000 := hsz e (by simp)
  have HRD := Lib.hid (@takeRd_seven a b c d e f g)
  clear h hsz
  obtain ⟨q0, q1, q2, q3, q4, q5, q6⟩ := HCE.out _ HB1.out
  go_enter Tryz.func109, Tryz.ntmps109
  go_upto_region 1 with (fail)
  generalize w.alloc (.cells #[.string ⟨#[]⟩, .string ⟨#[]⟩, .int .i64 0, .string ⟨#[]⟩, .string ⟨#[]⟩, .int .i64 0, .int .i64 0, .bool false, .slice none 0 0] 125) = w1 at *
  go_cut [43] (fun x wx => ∃ bb : Bool, x = .bool bb ∧ wx = w1 ∧ Hid (bb = false ↔ tkHead a c f g))
  case first =>
    by_cases ha : a = takeWd
    case neg =>
      have hab : (a.toList == [116, 97, 107, 101]) = false := (beqL a _).trans (decide_eq_false ha)
      have HI := Lib.hid (show ¬ tkHead a c f g from fun h => absurd h.1 ha)
      clear ha
      go_wp2
      go_meet
      exact ⟨true, by first | rfl | simp, rfl, ⟨fun h => (by cases h), fun h => absurd h HI.out⟩⟩
    have hab : (a.toList == [116, 97, 107, 101]) = true := (beqL a _).trans (decide_eq_true ha)
    cases hc : c.toList.isEmpty with
    | true =>
      have HI := Lib.hid (show ¬ tkHead a c f g from fun h => absurd ((empty_iff c).1 hc) h.2.1)
      clear ha
      go_wp2
      go_meet
      exact ⟨true, by first | rfl | simp, rfl, ⟨fun h => (by cases h), fun h => absurd h HI.out⟩⟩
    | false =>
    have hce : ¬ c = ⟨#[]⟩ := fun h => by rw [(empty_iff c).2 h] at hc; cases hc
    cases hf : f.toList.isEmpty with
    | true =>
      have HI := Lib.hid (show ¬ tkHead a c f g from fun h => absurd ((empty_iff f).1 hf) h.2.2.1)
      clear ha hce
      go_wp2
      go_meet
      exact ⟨true, by first | rfl | simp, rfl, ⟨fun h => (by cases h), fun h => absurd h HI.out⟩⟩
    | false =>
    have hfe : ¬ f = ⟨#[]⟩ := fun h => by rw [(empty_iff f).2 h] at hf; cases hf
    by_cases hg : g = goodT
    · have hgb : (g.toList == [103, 111, 111, 100]) = true := (beqL g _).trans (decide_eq_true hg)
      have HI := Lib.hid (show tkHead a c f g from ⟨ha, hce, hfe, .inl hg⟩)
      clear ha hce hfe hg
      go_wp2
      go_meet
      exact ⟨false, by first | rfl | simp, rfl, ⟨fun _ => HI.out, fun _ => rfl⟩⟩
    have hgb : (g.toList == [103, 111, 111, 100]) = false := (beqL g _).trans (decide_eq_false hg)
    by_cases hg2 : g = badT
    · have hgb2 : (g.toList == [98, 97, 100]) = true := (beqL g _).trans (decide_eq_true hg2)
      have HI := Lib.hid (show tkHead a c f g from ⟨ha, hce, hfe, .inr hg2⟩)
      clear ha hce hfe hg hg2
      go_wp2
      go_meet
      exact ⟨false, by first | rfl | simp, rfl, ⟨fun _ => HI.out, fun _ => rfl⟩⟩
    · have hgb2 : (g.toList == [98, 97, 100]) = false := (beqL g _).trans (decide_eq_false hg2)
      have HI := Lib.hid (show ¬ tkHead a c f g from fun h => absurd h.2.2.2 (fun h => h.elim hg hg2))
      clear ha hce hfe hg hg2
      go_wp2
      go_meet
      exact ⟨true, by first | rfl | simp, rfl, ⟨fun h => (by cases h), fun h => absurd h HI.out⟩⟩
  case rest =>
  obtain ⟨bb, rfl, rfl, HI⟩ := hcut
  cases bb with
  | true =>
    have HE := Lib.hid (HRD.out.trans (if_neg (fun h => by have := HI.out.2 h; cases this)))
    have hq := HKP.out _ (Below.refl _ _)
    obtain ⟨⟨y0, y1, y2, y3, y4, y5, y6, y7, y8⟩, yz⟩ := hq.1
    have HB := Lib.hid hq.2
    clear hq HKP HCE
    go_wp2
    refine ⟨rfl, .tuple #[.agg #[.string ⟨#[]⟩, .string ⟨#[]⟩, .int .i64 0, .string ⟨#[]⟩, .string ⟨#[]⟩, .int .i64 0, .int .i64 0, .bool false, .slice none 0 0], .bool false], (by rw [results_cell_tmp rfl]; go_simp), ?_⟩
    refine ⟨zeroTk, false, rfl, rfl, HE.out, ?_⟩
    repeat (first | with_reducible exact HB.out | with_reducible refine Below.drew ?_ | with_reducible refine Below.setCell ?_ (by first | exact Nat.le_refl _ | (dsimp only; omega)) _)
  | false =>
  have hh := HI.out.1 rfl
  obtain ⟨good, hgo⟩ : ∃ good : Bool, decide (g = goodT) = good := ⟨_, rfl⟩
  have hg1 : (g.toList == [103, 111, 111, 100]) = good := (beqL g _).trans hgo
  have HE2 := Lib.hid (show takeRd [a, b, c, d, e, f, g] = tkMk c f good (slRd b) (nmRd d) (nmRd e) by rw [HRD.out, if_pos hh, hgo])
  clear hh hgo HRD HI
  have HEL := Lib.hid (fun (W : World) (hb : Below wc.heap.size wc W) => show ErrsLaid W ∧ PowLaid W from ⟨HL.out.below (HB1.out.trans (hb.mono HB1.out.size)) (Nat.le_refl _), pow_below HPO.out (HB1.out.trans (hb.mono HB1.out.size)) (Nat.le_refl _)⟩)
  have HS1 := Lib.hid (SlateFrom_c b wc (by omega) (HEL.out _ (Below.refl _ _)).1 (HEL.out _ (Below.refl _ _)).2)
  go_wp2_with fail
  refine HS1.out.mono ?_
  rintro e1 w2 ⟨x1, x2, x3, o1, hp1, rfl, hb2'⟩
  have HN1 := Lib.hid (slRd_of hp1)
  have HB2 := Lib.hid hb2'
  clear hp1 hb2' HS1 q0 q1 q2 q3 q4 q5 q6
  obtain ⟨ι, ff, hne, hff, hfS⟩ := family (fun W => W.cell? ⟨B, 3, none⟩ = some (.string d) ∧ W.cell? ⟨B, 4, none⟩ = some (.string e)) w2.drew (by obtain ⟨_, _, _, q3, q4, _⟩ := HCE.out _ (HB1.out.trans (HB2.out.drew.mono HB1.out.size)); exact ⟨q3, q4⟩)
  have s0 := fun p => (hff p).1
  have s1 := fun p => (hff p).2
  have HFS := Lib.hid hfS
  have HW2 := Lib.hid (show w2.drew.cell? ⟨B, 3, none⟩ = some (.string d) ∧ w2.drew.cell? ⟨B, 4, none⟩ = some (.string e) by obtain ⟨_, _, _, q3, q4, _⟩ := HCE.out _ (HB1.out.trans (HB2.out.drew.mono HB1.out.size)); exact ⟨q3, q4⟩)
  clear hff hfS
  have HB2d := Lib.hid ((HB2.out.alloc HB2.out.size (.cells #[.string d, .string e] 9)).drew)
  have hsl := (Sli.new (R := strR) (l := [d, e]) (F := fun q => q = w2.heap.size) (w := w2) (cs := [.string d, .string e]) 9 2 (strLay2 _ _) rfl (Nat.le_refl 2) (by omega)).drew
  have hlt2 : w2.heap.size < (w2.alloc (.cells #[.string d, .string e] 9)).drew.heap.size := by show _ < (w2.alloc _).heap.size; simp
  have HNS := Lib.hid (numbersOf_c [d, e] _ (w2.alloc (.cells #[.string d, .string e] 9)).drew hsl (fun q hq => by rw [show q = _ from hq]; exact hlt2) (show 2 ≤ 10 by omega) (fun x hx => by simp at hx; rcases hx with rfl | rfl <;> assumption) (HEL.out _ HB2d.out).1 (HEL.out _ HB2d.out).2)
  have HWD := Lib.hid (fun (W : World) (hb : Below wc.heap.size wc W) => show W.cell? ⟨B, 3, none⟩ = some (.string d) ∧ W.cell? ⟨B, 4, none⟩ = some (.string e) by obtain ⟨_, _, _, q3, q4, _⟩ := HCE.out _ (HB1.out.trans (hb.mono HB1.out.size)); exact ⟨q3, q4⟩)
  clear hsl
  go_upto_region 4 with (fail)
  refine wp_region_segs3 [7] [8, 9, 10, 11, 12] [] [([0, 1, 3, 4], [2, 5], 6), ([], [], 7)] (by kernel_rfl) (by kernel_rfl) (fun _ _ _ dd _ h => by cases dd <;> exact h) (fun W => ∃ p : ι, W = ff p) (HFS.out _ HW2.out) ?_
  refine wpSegs3_step (by simp only [pick, List.getElem?_cons_succ, List.getElem?_cons_zero]; rfl) (by simp only [pick, List.getElem?_cons_succ, List.getElem?_cons_zero]; rfl) rfl (fun K0 hK0 L0 hL0 => ?_)
  repeat (first | go_big_quiet_step (fail) | quiet_step (fail))
  refine wpQuiet_nil (hL0 _ ?_)
  repeat (first | go_big_quiet_step (fail) | quiet_step (fail))
  refine wpQuiet_nil ?_
  refine Or.inl ⟨by kernel_rfl, ?_⟩
  go_simp
  generalize (w2.alloc (.cells #[.string d, .string e] 9)).drew = w3 at *
  refine hK0 (fun W => ∃ p : ι, W = ff p) _ _ (fun _ h => h) (HFS.out _ (HWD.out _ HB2d.out)) ?_
  refine wpSegs3_step (by simp only [pick, List.getElem?_cons_succ, List.getElem?_cons_zero]; rfl) (by simp only [pick, List.getElem?_cons_succ, List.getElem?_cons_zero]; rfl) rfl (fun K1 hK1 L1 hL1 => ?_)
  repeat (first | go_big_quiet_step (fail) | quiet_step (fail))
  refine wpQuiet_nil (hL1 _ ?_)
  repeat (first | go_big_quiet_step (fail) | quiet_step (fail))
  refine wpQuiet_nil ?_
  refine Or.inl ⟨by kernel_rfl, ?_⟩
  go_simp
  refine HNS.out.mono ?_
  rintro e3 w4 ⟨v9, ns, ok9, rfl, hb9, hown9, hns9⟩
  have HB4 := Lib.hid (HB2d.out.trans (hb9.mono HB2d.out.size))
  refine hK1 (fun W => ∃ p : ι, W = ff p) _ _ (fun _ h => h) (HFS.out _ (HWD.out _ HB4.out)) ?_
  have HNSR := Lib.hid hns9
  have HOW := Lib.hid hown9
  clear hb9 hns9 hown9 s0 s1 HNS HB2d HB2 HFS HW2
  refine wpSegs3_fin (by simp only [pick, List.getElem?_cons_succ, List.getElem?_cons_zero]; rfl) (by simp only [pick, List.getElem?_cons_succ, List.getElem?_cons_zero]; rfl) (fun L2 hL2 => ?_)
  repeat (first | go_big_quiet_step (fail) | quiet_step (fail))
  refine wpQuiet_nil (hL2 _ ?_)
  repeat (first | go_big_quiet_step (fail) | quiet_step (fail))
  refine wpQuiet_nil ?_
  cases o1 with
  | false =>
    have HE := Lib.hid (show takeRd [a, b, c, d, e, f, g] = none by rw [HE2.out, HN1.out]; rfl)
    clear HNSR HOW HN1 HE2
    have hq := HKP.out _ HB4.out
    obtain ⟨⟨y0, y1, y2, y3, y4, y5, y6, y7, y8⟩, yz⟩ := hq.1
    have HB := Lib.hid hq.2
    have hzw : w.heap.size < w4.heap.size := Nat.lt_of_lt_of_le hz1 HB4.out.size
    clear hq HKP HCE
    go_wp2
    refine ⟨rfl, .tuple #[.agg #[.string ⟨#[]⟩, .string ⟨#[]⟩, .int .i64 0, .string ⟨#[]⟩, .string ⟨#[]⟩, .int .i64 0, .int .i64 0, .bool false, .slice none 0 0], .bool false], (by rw [results_cell_tmp rfl]; go_simp), ?_⟩
    refine ⟨zeroTk, false, rfl, rfl, HE.out, ?_⟩
    repeat (first | with_reducible exact HB.out | with_reducible refine Below.drew ?_ | with_reducible refine Below.setCell ?_ (by first | exact Nat.le_refl _ | (dsimp only; omega)) _)
  | true =>
  cases ok9 with
  | false =>
    have HE := Lib.hid (show takeRd [a, b, c, d, e, f, g] = none by
      rw [HE2.out, HN1.out]
      rcases nms_two_none HNSR.out with h | h
      · rw [h]; rfl
      · rw [h]
        cases nmRd d <;> rfl)
    clear HNSR HOW HN1 HE2
    have hq := HKP.out _ HB4.out
    obtain ⟨⟨y0, y1, y2, y3, y4, y5, y6, y7, y8⟩, yz⟩ := hq.1
    have HB := Lib.hid hq.2
    have hzw : w.heap.size < w4.heap.size := Nat.lt_of_lt_of_le hz1 HB4.out.size
    clear hq HKP HCE
    go_wp2
    refine ⟨rfl, .tuple #[.agg #[.string ⟨#[]⟩, .string ⟨#[]⟩, .int .i64 0, .string ⟨#[]⟩, .string ⟨#[]⟩, .int .i64 0, .int .i64 0, .bool false, .slice none 0 0], .bool false], (by rw [results_cell_tmp rfl]; go_simp), ?_⟩
    refine ⟨zeroTk, false, rfl, rfl, HE.out, ?_⟩
    repeat (first | with_reducible exact HB.out | with_reducible refine Below.drew ?_ | with_reducible refine Below.setCell ?_ (by first | exact Nat.le_refl _ | (dsimp only; omega)) _)
  | true =>
  obtain ⟨n2, n3, rfl, hnd, hne⟩ := nms_two HNSR.out
  have HFIN := Lib.hid (show takeRd [a, b, c, d, e, f, g] = some ⟨x1, x2, x3, c, dashS f, n2, n3, good, []⟩ by
    rw [HE2.out, HN1.out, hnd, hne]; rfl)
  obtain ⟨g9, cap9, hv9, hg91, hg92⟩ := Own.some_ (enc := fun x : Int => [.int .i64 x]) (hn := fun _ => rfl) HOW.out (show 0 < 2 by omega)
  subst hv9
  have j0 : w4.cell? ⟨g9, 0, none⟩ = some (.int .i64 n2) := (Own.cellAt (n := 1) (enc := fun x : Int => [.int .i64 x]) (hn := fun _ => rfl) HOW.out 0 (show 0 < 2 by omega) 0 (by decide)).1
  have j1 : w4.cell? ⟨g9, 1, none⟩ = some (.int .i64 n3) := (Own.cellAt (n := 1) (enc := fun x : Int => [.int .i64 x]) (hn := fun _ => rfl) HOW.out 1 (show 1 < 2 by omega) 0 (by decide)).1
  rw [show ([n2, n3] : List Int).length = 2 from rfl]
  obtain ⟨q0, q1, q2, q3, q4, q5, q6⟩ := HCE.out _ (HB1.out.trans (HB4.out.mono HB1.out.size))
  have HB := Lib.hid (HKP.out _ HB4.out).2
  have hzw : w.heap.size < w4.heap.size := Nat.lt_of_lt_of_le hz1 HB4.out.size
  have hBw : B < w4.heap.size := by omega
  clear HCE HN1 HE2 HEL HNSR HOW hnd hne
  obtain ⟨ι7, f7, hne7, hf7, hS7⟩ := family (fun W => W.cell? ⟨B, 2, none⟩ = some (.string c) ∧ W.cell? ⟨B, 5, none⟩ = some (.string f) ∧ W.cell? ⟨B, 6, none⟩ = some (.string g) ∧ W.cell? ⟨g9, 0, none⟩ = some (.int .i64 n2) ∧ W.cell? ⟨g9, 1, none⟩ = some (.int .i64 n3)) w4.drew ⟨q2, q5, q6, j0, j1⟩
  have r0 := fun p => (hf7 p).1
  have r1 := fun p => (hf7 p).2.1
  have r2 := fun p => (hf7 p).2.2.1
  have r3 := fun p => (hf7 p).2.2.2.1
  have r4 := fun p => (hf7 p).2.2.2.2
  have HF7 := Lib.hid hS7
  have HW7 := Lib.hid (show w4.drew.cell? ⟨B, 2, none⟩ = some (.string c) ∧ w4.drew.cell? ⟨B, 5, none⟩ = some (.string f) ∧ w4.drew.cell? ⟨B, 6, none⟩ = some (.string g) ∧ w4.drew.cell? ⟨g9, 0, none⟩ = some (.int .i64 n2) ∧ w4.drew.cell? ⟨g9, 1, none⟩ = some (.int .i64 n3) from ⟨q2, q5, q6, j0, j1⟩)
  have HQ7 := Lib.hid (show w4.cell? ⟨B, 2, none⟩ = some (.string c) ∧ w4.cell? ⟨B, 5, none⟩ = some (.string f) ∧ w4.cell? ⟨B, 6, none⟩ = some (.string g) ∧ w4.cell? ⟨g9, 0, none⟩ = some (.int .i64 n2) ∧ w4.cell? ⟨g9, 1, none⟩ = some (.int .i64 n3) from ⟨q2, q5, q6, j0, j1⟩)
  clear hf7 hS7 q0 q1 q2 q3 q4 q5 q6 j0 j1
  go_upto_region 7 with (fail)
  refine wp_region_segs3 [20] [] [] [([0, 1, 2, 3, 4, 6, 7, 9, 10, 12, 13, 15, 16], [5, 8, 11, 14, 17, 18, 19], 20), ([], [], 21)] (by kernel_rfl) (by kernel_rfl) (fun _ _ _ dd _ h => by cases dd <;> exact h) (fun W => ∃ p : ι7, W = f7 p) (HF7.out _ HW7.out) ?_
  refine wpSegs3_step (by simp only [pick, List.getElem?_cons_succ, List.getElem?_cons_zero]; rfl) (by simp only [pick, List.getElem?_cons_succ, List.getElem?_cons_zero]; rfl) rfl (fun K7 hK7 L7 hL7 => ?_)
  repeat (first | go_big_quiet_step (fail) | quiet_step (fail))
  refine wpQuiet_nil (hL7 _ ?_)
  repeat (first | go_big_quiet_step (fail) | quiet_step (fail))
  refine wpQuiet_nil ?_
  refine Or.inl ⟨by kernel_rfl, ?_⟩
  go_simp
  refine hK7 (fun W => ∃ p : ι7, W = f7 p) _ _ (fun _ h => h) (HF7.out _ ⟨(World.cell?_alloc_lt w4 _ ⟨B, 2, none⟩ hBw).trans HQ7.out.1, (World.cell?_alloc_lt w4 _ ⟨B, 5, none⟩ hBw).trans HQ7.out.2.1, (World.cell?_alloc_lt w4 _ ⟨B, 6, none⟩ hBw).trans HQ7.out.2.2.1, (World.cell?_alloc_lt w4 _ ⟨g9, 0, none⟩ hg92).trans HQ7.out.2.2.2.1, (World.cell?_alloc_lt w4 _ ⟨g9, 1, none⟩ hg92).trans HQ7.out.2.2.2.2⟩) ?_
  refine wpSegs3_last (by simp only [pick, List.getElem?_cons_succ, List.getElem?_cons_zero]; rfl) (by simp only [pick, List.getElem?_cons_succ, List.getElem?_cons_zero]; rfl) rfl (by rfl) (fun K8 hK8 L8 hL8 => ?_)
  repeat (first | go_big_quiet_step (fail) | quiet_step (fail))
  refine wpQuiet_nil (hL8 _ ?_)
  repeat (first | go_big_quiet_step (fail) | quiet_step (fail))
  refine wpQuiet_nil ?_
  refine Or.inl ⟨by kernel_rfl, ?_⟩
  go_simp
  refine hK8 _ _ (wpSegs3_end ?_)
  clear r0 r1 r2 r3 r4 HF7 HW7 HQ7
  have hB5 : Below wc.heap.size wc (w4.alloc (.cells #[.string x1, .string x2, .int .i64 x3, .string c, .string f, .int .i64 n2, .int .i64 n3, .bool good, .slice none 0 0] 125)).drew := (HB4.out.alloc HB4.out.size _).drew
  have HT := Lib.hid (show (w4.alloc (.cells #[.string x1, .string x2, .int .i64 x3, .string c, .string f, .int .i64 n2, .int .i64 n3, .bool good, .slice none 0 0] 125)).drew.heap[w4.heap.size]? = some (.cells #[.string x1, .string x2, .int .i64 x3, .string c, .string f, .int .i64 n2, .int .i64 n3, .bool good, .slice none 0 0] 125 (0, 0)) from heap_alloc_new w4 _)
  have hz5 : w4.heap.size < (w4.alloc (.cells #[.string x1, .string x2, .int .i64 x3, .string c, .string f, .int .i64 n2, .int .i64 n3, .bool good, .slice none 0 0] 125)).drew.heap.size := by show _ < (w4.alloc _).heap.size; simp
  generalize (w4.alloc (.cells #[.string x1, .string x2, .int .i64 x3, .string c, .string f, .int .i64 n2, .int .i64 n3, .bool good, .slice none 0 0] 125)).drew = w5 at *
  have hq := HKP.out _ hB5
  obtain ⟨⟨y0, y1, y2, y3, y4, y5, y6, y7, y8⟩, yz⟩ := hq.1
  have HBF := Lib.hid hq.2
  have hzb : w.heap.size < w5.heap.size := by omega
  generalize w4.heap.size = Y at *
  obtain ⟨z, zz⟩ := str_cells HT.out
  have z4 : w5.cell? ⟨Y, 4, none⟩ = some (.string f) := z 4
  clear hq HKP hB5 HB HB4 HB1 z
  cases hd : (f.toList == [45]) with
  | false =>
    have HDA := Lib.hid (dash_no hd)
    go_upto_region 10 with (fail)
    clear z4 zz hd
    have HFI2 := Lib.hid (show takeRd [a, b, c, d, e, f, g] = some ⟨x1, x2, x3, c, f, n2, n3, good, []⟩ by rw [HFIN.out, HDA.out])
    obtain ⟨z0, z1, z2, z3, z4, z5, z6, z7, z8⟩ := tk_cells (x := ⟨x1, x2, x3, c, f, n2, n3, good, []⟩) (A := none) (n := 0) (c := 0) HT.out
    dsimp only at z0 z1 z2 z3 z4 z5 z6 z7 z8
    clear HFIN HDA HT
    go_wp2
    refine ⟨rfl, .tuple #[.agg #[.string x1, .string x2, .int .i64 x3, .string c, .string f, .int .i64 n2, .int .i64 n3, .bool good, .slice none 0 0], .bool true], (by rw [results_cell_tmp rfl]; go_simp), ?_⟩
    refine ⟨⟨x1, x2, x3, c, f, n2, n3, good, []⟩, true, rfl, rfl, HFI2.out, ?_⟩
    repeat (first | with_reducible exact HBF.out | with_reducible refine Below.drew ?_ | with_reducible refine Below.setCell ?_ (by first | exact Nat.le_refl _ | (dsimp only; omega)) _)
  | true =>
    have HDA := Lib.hid (dash_yes hd)
    go_upto_region 10 with (fail)
    have HT2 := Lib.hid (show (w5.setCell ⟨Y, 4, none⟩ (.string ⟨#[]⟩)).heap[Y]? = some (.cells #[.string x1, .string x2, .int .i64 x3, .string c, .string ⟨#[]⟩, .int .i64 n2, .int .i64 n3, .bool good, .slice none 0 0] 125 (0, 0)) by
      have h := HT.out
      simp [World.setCell, Array.getElem?_modify, h])
    have hne : ∀ i u, (w5.cell? ⟨w.heap.size, i, none⟩ = some u) → (w5.setCell ⟨Y, 4, none⟩ (.string ⟨#[]⟩)).cell? ⟨w.heap.size, i, none⟩ = some u := fun i u h => (World.cell?_setCell_other _ _ _ _ (fun e => by have := congrArg Addr.block e; dsimp only at this; omega)).trans h
    have y0 := hne _ _ y0
    have y1 := hne _ _ y1
    have y2 := hne _ _ y2
    have y3 := hne _ _ y3
    have y4 := hne _ _ y4
    have y5 := hne _ _ y5
    have y6 := hne _ _ y6
    have y7 := hne _ _ y7
    have y8 := hne _ _ y8
    have yz : ∀ i, (w5.setCell ⟨Y, 4, none⟩ (.string ⟨#[]⟩)).frozen? ⟨w.heap.size, i, none⟩ = false := fun i => (frozen_setCell w5 _ _ _).trans (yz i)
    have HBF := Lib.hid (HBF.out.setCell (p := ⟨Y, 4, none⟩) (by show w.heap.size ≤ Y; omega) (.string ⟨#[]⟩))
    have hzb : w.heap.size < (w5.setCell ⟨Y, 4, none⟩ (.string ⟨#[]⟩)).heap.size := by simpa [World.setCell] using hzb
    have hz5 : Y < (w5.setCell ⟨Y, 4, none⟩ (.string ⟨#[]⟩)).heap.size := by simpa [World.setCell] using hz5
    generalize w5.setCell ⟨Y, 4, none⟩ (.string ⟨#[]⟩) = w6 at *
    have HT := HT2
    clear z4 zz hd hne HT2
    have HFI2 := Lib.hid (show takeRd [a, b, c, d, e, f, g] = some ⟨x1, x2, x3, c, ⟨#[]⟩, n2, n3, good, []⟩ by rw [HFIN.out, HDA.out])
    obtain ⟨z0, z1, z2, z3, z4, z5, z6, z7, z8⟩ := tk_cells (x := ⟨x1, x2, x3, c, ⟨#[]⟩, n2, n3, good, []⟩) (A := none) (n := 0) (c := 0) HT.out
    dsimp only at z0 z1 z2 z3 z4 z5 z6 z7 z8
    clear HFIN HDA HT
    go_wp2
    refine ⟨rfl, .tuple #[.agg #[.string x1, .string x2, .int .i64 x3, .string c, .string ⟨#[]⟩, .int .i64 n2, .int .i64 n3, .bool good, .slice none 0 0], .bool true], (by rw [results_cell_tmp rfl]; go_simp), ?_⟩
    refine ⟨⟨x1, x2, x3, c, ⟨#[]⟩, n2, n3, good, []⟩, true, rfl, rfl, HFI2.out, ?_⟩
    repeat (first | with_reducible exact HBF.out | with_reducible refine Below.drew ?_ | with_reducible refine Below.setCell ?_ (by first | exact Nat.le_refl _ | (dsimp only; omega)) _)
end Go.Proofs.YtihkkaeoijheoaaGreatDoor

