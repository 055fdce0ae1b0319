/- Texts packed: EvS, GenA, GrowS, AppS, GrowI, OwnMod, GrowB, GrowJ, NestS, GrowM, PushK, OpPush, PushS, RollW, RollX, ScriptT, DelW, Shelf. -/
import Derived.Test.YtkhegeobdcemkaaGreatDoorSc01
import Derived.Lib.Split
import Derived.Lib.SplitLaws
import Derived.Lib.Join
import Derived.Lib.Repeat
import Derived.Lib.ItoaNum
import Derived.Test.YtkhegeobdcemkaaGreatDoorRows
import Derived.OneCell
import Derived.Room.AppendOnto
import Derived.BigQuiet
import Derived.Deep.RegionWith
import Derived.Deep.QuietTactic
import Derived.Deep.RegionLaw
import Derived.Laws.IdiomCopy
import Derived.Lib.SliceRun
import Derived.Deep.DeepCutAuto
import Derived.Shelf.Strings.Builder1
import Derived.Shelf.Strings.Builder2
import Derived.Shelf.Strings.OnBuilder
import Derived.Shelf.Strings.Trim
import Derived.Shelf.Small.Utf8
import Derived.Shelf.Small.Strs
import Derived.Shelf.Small.Wraps
import Derived.Shelf.Strings.BuilderF
import Derived.Shelf.Strings.BuilderK
import Derived.Shelf.Strings.Builder2Cap
import Derived.Shelf.Strconv.Atoi
import Derived.Shelf.Strconv.Itoa0
import Derived.Shelf.Strconv.Itoa1
import Derived.Shelf.LaysM
import Derived.Shelf.Strconv.Itoa2
import Derived.Shelf.Strconv.Itoa3
import Derived.Shelf.Strconv.AtoiErrFast
import Derived.Shelf.Strconv.ParseIntEmpty
import Derived.Shelf.Strconv.AtoiFail
import Derived.Shelf.Strconv.Clone
import Derived.Shelf.Strconv.SyntaxError
import Derived.Shelf.LaysC
import Derived.Shelf.Strconv.ToError
import Derived.Shelf.Strconv.Lower
import Derived.Shelf.Strconv.ParseUint10
import Derived.Shelf.Strconv.ParseUint10Empty
import Derived.Shelf.Strconv.ParseUint10Any
import Derived.Shelf.Strconv.ParseInt10
import Derived.Shelf.Strconv.AtoiLong
import Derived.Shelf.Strconv.AtoiInnerAll
import Derived.Shelf.Strconv.RangeError
import Derived.Shelf.Strconv.ToErrorRange
import Derived.Shelf.Strconv.AtoiAll
import Derived.Shelf.Strconv.ErrVarAll
import Derived.Shelf.Strings.Search1
import Derived.Shelf.Strings.Search2
import Derived.Shelf.Strings.Search3
import Derived.Shelf.Strings.Cut
import Derived.Shelf.Strings.Count
import Derived.Shelf.Strings.Shaped
import Derived.Shelf.Strings.LastIndex
import Derived.Shelf.Strings.LastIndexAll
import Derived.Shelf.Strings.Prefix
import Derived.Shelf.Strings.Split
import Derived.Shelf.Strings.Fields
import Derived.Shelf.Strings.SplitShaped
import Derived.Shelf.Unicode.Latin
import Derived.Shelf.Unicode.Decode
import Derived.Shelf.Strings.Runes
import Derived.Shelf.Strings.RuneCount
import Derived.Shelf.Strings.IndexAny
import Derived.Shelf.Strings.AsciiSet
import Derived.Shelf.Strings.IndexAnyAll
import Derived.Shelf.Strings.Explode
import Derived.Shelf.Bits.Mul64
import Derived.Shelf.Strings.Repeat
import Derived.Shelf.Unicode.DecodeSlow
import Derived.Shelf.Unicode.DecodeAny
import Derived.Shelf.Unicode.Is16White
import Derived.Shelf.Unicode.IsSpaceAny
import Derived.Shelf.Unicode.DecodeLast
import Derived.Shelf.Strings.FieldsFuncAny
import Derived.Shelf.Unicode.Is16Any
import Derived.Shelf.Unicode.Is32Any
import Derived.Shelf.Unicode.ExclAny
import Derived.Shelf.Strings.FieldsFuncGrows
import Derived.Shelf.Strings.BuilderCap
import Derived.Shelf.Slices.Turned
import Derived.Shelf.Slices.Equal
import Derived.Ground.Names2Prog
import Derived.Shelf.Slices.Clone
import Derived.Shelf.Slices.Delete
import Derived.Shelf.Slices.Empties2
import Derived.Ground.SlgnProg
import Derived.Shelf.SlicesE.Equal
import Derived.Test.YtkhegeobdcemkaaGreatDoorProg
/- Events in plain words: what the program and the reference both compute. No program in sight. -/
namespace Go.Proofs.YtkhegeobdcemkaaGreatDoor
set_option linter.unusedVariables false
open Go.RowKit

structure Ev where
  roll : ByteArray
  tin : Int
  tout : Int
theorem Ev.ext_iff' {a b : Ev} : a = b ↔ a.roll = b.roll ∧ a.tin = b.tin ∧ a.tout = b.tout := by
  constructor
  · rintro rfl; exact ⟨rfl, rfl, rfl⟩
  · rintro ⟨h1, h2, h3⟩; cases a; cases b; simp at h1 h2 h3; subst h1; subst h2; subst h3; rfl
def Ev.cells (x : Ev) : List Value := [.string x.roll, .int .i64 x.tin, .int .i64 x.tout]
def Ev.val (x : Ev) : Value := .agg #[.string x.roll, .int .i64 x.tin, .int .i64 x.tout]
def evR : Rep Ev := Rep.flat 3 Ev.cells (fun _ => rfl)
def Ev.eqB (a b : Ev) : Bool := decide (a.roll = b.roll) && decide (a.tin = b.tin) && decide (a.tout = b.tout)
theorem Ev.eqB_iff {a b : Ev} : a.eqB b = true ↔ a = b := by rw [Ev.ext_iff']; simp [Ev.eqB, and_assoc]
/-- What events of the generator stay within. -/
def EvSz (l : List Ev) : Prop := ∀ x ∈ l, x.roll.size ≤ 140737488355328 ∧ -1000000000 ≤ x.tin ∧ x.tin ≤ 1000000000 ∧ -1000000000 ≤ x.tout ∧ x.tout ≤ 1000000000

/-- The first error of a list. -/
def firstE {α : Type} (f : α → Int) : List α → Int
  | [] => 0
  | x :: r => if f x = 0 then firstE f r else f x
theorem firstE_at {α : Type} {f : α → Int} {l : List α} {k : Nat} (h : ∀ x ∈ l.take k, f x = 0) (hk : k < l.length) (hf : ¬ f l[k] = 0) : firstE f l = f l[k] := by
  induction l generalizing k with
  | nil => simp at hk
  | cons y l ih =>
    cases k with
    | zero => exact if_neg hf
    | succ k =>
      rw [firstE, if_pos (h y (by simp))]
      exact ih (fun x hx => h x (by simp [hx])) (by simpa using hk) hf
theorem firstE_all {α : Type} {f : α → Int} {l : List α} (h : ∀ x ∈ l, f x = 0) : firstE f l = 0 := by
  induction l with
  | nil => rfl
  | cons y l ih => rw [firstE, if_pos (h y (by simp))]; exact ih fun x hx => h x (by simp [hx])
theorem firstE_zero {α : Type} {f : α → Int} {l : List α} (h : firstE f l = 0) : ∀ x ∈ l, f x = 0 := by
  induction l with
  | nil => simp
  | cons y l ih =>
    by_cases hy : f y = 0
    · rw [firstE, if_pos hy] at h
      intro x hx
      rcases List.mem_cons.1 hx with rfl | hx
      · exact hy
      · exact ih h x hx
    · rw [firstE, if_neg hy] at h; exact absurd h hy

def withinB (r : Roll) (a b : Int) : Bool := decide (r.start ≤ a) && decide (a < b) && decide (b ≤ r.start + r.long)
/-- The error of an event at a rate. -/
def evF (rolls : List Roll) (rate : Int) (x : Ev) : Int :=
  if rollHas rolls x.roll = false then 8 else if (rollGet rolls x.roll).rate ≠ rate then 4 else if withinB (rollGet rolls x.roll) x.tin x.tout = false then 1 else 0
def evRate (rolls : List Roll) : List Ev → Int
  | [] => 0
  | x :: _ => (rollGet rolls x.roll).rate
def evSum : List Ev → Int
  | [] => 0
  | x :: r => (x.tout - x.tin) + evSum r
theorem evSum_snoc (l : List Ev) (x : Ev) : evSum (l ++ [x]) = evSum l + (x.tout - x.tin) := by
  induction l with
  | nil => simp [evSum]
  | cons y l ih => rw [List.cons_append, evSum, ih, evSum]; omega
def evErr (rolls : List Roll) (l : List Ev) : Int :=
  if 999 < l.length then 2 else if ¬ firstE (evF rolls (evRate rolls l)) l = 0 then firstE (evF rolls (evRate rolls l)) l else if framesN (evRate rolls l) < evSum l then 2 else 0
def evErrA (rolls : List Roll) (l : List Ev) : Int := if ¬ rollsFault rolls = 0 then rollsFault rolls else evErr rolls l
theorem evSum_take (l : List Ev) (k : Nat) (hk : k < l.length) : evSum (l.take (k + 1)) = evSum (l.take k) + (l[k].tout - l[k].tin) := by
  rw [List.take_succ_eq_append_getElem hk, evSum_snoc]
theorem evRate_cons (rolls : List Roll) (l : List Ev) (h : 0 < l.length) : evRate rolls l = (rollGet rolls l[0].roll).rate := by
  cases l with
  | nil => simp at h
  | cons x r => rfl
/-- What a right event stays within. -/
theorem evF_ok {rolls : List Roll} {rate : Int} {x : Ev} (hR : rollsFault rolls = 0) (h : evF rolls rate x = 0) :
    rollHas rolls x.roll = true ∧ (rollGet rolls x.roll).rate = rate ∧ isRateB rate = true ∧ 0 ≤ x.tin ∧ x.tin < x.tout ∧ x.tout ≤ framesN rate := by
  unfold evF at h
  by_cases h1 : rollHas rolls x.roll = false
  · rw [if_pos h1] at h; omega
  · rw [if_neg h1] at h
    by_cases h2 : (rollGet rolls x.roll).rate ≠ rate
    · rw [if_pos h2] at h; omega
    · rw [if_neg h2] at h
      have h2' : (rollGet rolls x.roll).rate = rate := by omega
      by_cases h3 : withinB (rollGet rolls x.roll) x.tin x.tout = false
      · rw [if_pos h3] at h; omega
      · have hh : rollHas rolls x.roll = true := by simpa using h1
        have hm := rollsFault_ok rolls hR _ (rollGet_mem hh)
        have hb : withinB (rollGet rolls x.roll) x.tin x.tout = true := by simpa using h3
        simp only [withinB, Bool.and_eq_true, decide_eq_true_eq] at hb
        have hbad := hm.2.1
        simp only [rollBadB, decide_eq_false_iff_not] at hbad
        have hr := hm.1
        rw [h2'] at hr hbad
        exact ⟨hh, h2', hr, by omega, by omega, by omega⟩
/-- What the sum of right events stays within. -/
theorem evSum_bd {rolls : List Roll} {rate : Int} (hR : rollsFault rolls = 0) (l : List Ev) (h : ∀ x ∈ l, evF rolls rate x = 0) : 0 ≤ evSum l ∧ evSum l ≤ 2592000 * l.length := by
  induction l with
  | nil => simp [evSum]
  | cons y l ih =>
    obtain ⟨_, _, hr, h1, h2, h3⟩ := evF_ok hR (h y (by simp))
    have hf := (frames_bd hr).2
    have := ih fun x hx => h x (by simp [hx])
    rw [evSum, List.length_cons]
    omega

/-- A number with at least three figures. -/
def num3 (n : Int) : ByteArray := ⟨(Lib.repeatL [48] (3 - (Lib.itoa n).length) ++ Lib.itoa n).toArray⟩
def evLine (rolls : List Roll) (i at_ : Int) (x : Ev) : List ByteArray :=
  [num3 i, x.roll, codeS (rollGet rolls x.roll).rate x.tin, codeS (rollGet rolls x.roll).rate (x.tout - 1), codeS (rollGet rolls x.roll).rate at_, codeS (rollGet rolls x.roll).rate (at_ + (x.tout - x.tin) - 1)]
def lineL (l : List ByteArray) : List UInt8 := Lib.join (l.map (·.data.toList)) [32]
/-- The lines of events from a number and a frame on. -/
def evText (rolls : List Roll) : Int → Int → List Ev → List UInt8
  | _, _, [] => []
  | i, at_, x :: r => lineL (evLine rolls i at_ x) ++ [10] ++ evText rolls (i + 1) (at_ + (x.tout - x.tin)) r
theorem evText_snoc (rolls : List Roll) (l : List Ev) (x : Ev) : ∀ i at_, evText rolls i at_ (l ++ [x]) = evText rolls i at_ l ++ (lineL (evLine rolls (i + l.length) (at_ + evSum l) x) ++ [10]) := by
  induction l with
  | nil => intro i a; simp [evText, evSum]
  | cons y l ih =>
    intro i a
    rw [List.cons_append, evText, ih, evText, evSum, List.length_cons]
    rw [show i + 1 + (l.length : Int) = i + ((l.length + 1 : Nat) : Int) by omega, show a + (y.tout - y.tin) + evSum l = a + ((y.tout - y.tin) + evSum l) by omega]
    simp only [List.append_assoc]

open Classical in
/-- The frame of a code, if it is one. -/
noncomputable def codeRd (r : Int) (s : ByteArray) : Option Int := if h : ∃ x, 0 ≤ x ∧ x < framesN r ∧ codeS r x = s then some h.choose else none
theorem codeRd_of {r : Int} {s : ByteArray} {v : Int} {ok : Bool} (hr : isRateB r = true) (h : readP r s v ok) : codeRd r s = bif ok then some v else none := by
  unfold codeRd
  cases ok with
  | false =>
    rw [dif_neg]
    · rfl
    · rintro ⟨x, h1, h2, h3⟩
      exact h.2 rfl x h1 h2 h3
  | true =>
    have hv := h.1 rfl
    have hex : ∃ x, 0 ≤ x ∧ x < framesN r ∧ codeS r x = s := ⟨v, hv⟩
    rw [dif_pos hex]
    have hc := hex.choose_spec
    have h2 : readP r s hex.choose true := ⟨fun _ => hc, fun e => by cases e⟩
    exact congrArg some ((readP_same hr h2 h).2 rfl)
theorem codeRd_bd {r : Int} {s : ByteArray} {v : Int} (h : codeRd r s = some v) : 0 ≤ v ∧ v < framesN r := by
  unfold codeRd at h
  split at h
  · rename_i hex
    injection h with h
    subst h
    have := hex.choose_spec
    exact ⟨this.1, this.2.1⟩
  · cases h

/-- Words of a line. -/
def words (s : ByteArray) (c : UInt8) : List ByteArray := Lib.splitB ⟨#[c]⟩ 0 (Lib.countB s ⟨#[c]⟩) s
theorem splitB_size (sep : ByteArray) : ∀ (k : Nat) (s x : ByteArray), x ∈ Lib.splitB sep 0 k s → x.size ≤ s.size := by
  intro k
  induction k with
  | zero => intro s x hx; rw [Lib.splitB_zero] at hx; simp at hx; rw [hx]; exact Nat.le_refl _
  | succ k ih =>
    intro s x hx
    rw [Lib.splitB] at hx
    split at hx
    · simp at hx; rw [hx]; exact Nat.le_refl _
    · rcases List.mem_cons.1 hx with rfl | hx
      · rw [ByteArray.size_extract]; omega
      · have := ih _ _ hx
        rw [ByteArray.size_extract] at this; omega
theorem words_size {s x : ByteArray} {c : UInt8} (h : x ∈ words s c) : x.size ≤ s.size := splitB_size _ _ _ _ h
theorem words_len (s : ByteArray) (c : UInt8) : (words s c).length = Lib.countB s ⟨#[c]⟩ + 1 := Lib.splitB_all ⟨#[c]⟩ (Nat.le_refl 1) 0 _ s rfl
theorem words_le (s : ByteArray) (c : UInt8) : (words s c).length ≤ s.size + 1 := by
  rw [words_len]; have := Lib.countB_le ⟨#[c]⟩ (Nat.le_refl 1) s.size s (Nat.le_refl _); omega

/-- An event's line read: the roll, and four frames. -/
def evMk (b : ByteArray) (at_ : Int) : Option Int → Option Int → Option Int → Option Int → Option Ev
  | some x, some y, some z, some u => if x ≤ y ∧ z = at_ ∧ u - z = y - x then some ⟨b, x, y + 1⟩ else none
  | _, _, _, _ => none
noncomputable def evRead (rolls : List Roll) (line : ByteArray) (no at_ : Int) : Option Ev :=
  match words line 32 with
  | [a, b, c, d, e, f] => if a = num3 no ∧ rollHas rolls b = true then evMk b at_ (codeRd (rollGet rolls b).rate c) (codeRd (rollGet rolls b).rate d) (codeRd (rollGet rolls b).rate e) (codeRd (rollGet rolls b).rate f) else none
  | _ => none
theorem evRead_len {rolls : List Roll} {line : ByteArray} {no at_ : Int} (h : ¬ (words line 32).length = 6) : evRead rolls line no at_ = none := by
  unfold evRead
  split
  · rename_i h'; rw [h'] at h; exact absurd rfl h
  · rfl
theorem evRead_six {rolls : List Roll} {line : ByteArray} {no at_ : Int} {a b c d e f : ByteArray} (h : words line 32 = [a, b, c, d, e, f]) :
    evRead rolls line no at_ = if a = num3 no ∧ rollHas rolls b = true then evMk b at_ (codeRd (rollGet rolls b).rate c) (codeRd (rollGet rolls b).rate d) (codeRd (rollGet rolls b).rate e) (codeRd (rollGet rolls b).rate f) else none := by
  unfold evRead
  rw [h]
theorem evMk_none {q at_ : Int} {b c d e f s : ByteArray} {k : Nat} (hk : ([c, d, e, f] : List ByteArray)[k]? = some s) (h : codeRd q s = none) : evMk b at_ (codeRd q c) (codeRd q d) (codeRd q e) (codeRd q f) = none := by
  match k, hk with
  | 0, hk => injection hk with hk; subst hk; rw [h]; rfl
  | 1, hk => injection hk with hk; subst hk; rw [h]; cases codeRd q c <;> rfl
  | 2, hk => injection hk with hk; subst hk; rw [h]; cases codeRd q c <;> cases codeRd q d <;> rfl
  | 3, hk => injection hk with hk; subst hk; rw [h]; cases codeRd q c <;> cases codeRd q d <;> cases codeRd q e <;> rfl
theorem evRead_bd {rolls : List Roll} {line : ByteArray} {no at_ : Int} {x : Ev} (hR : rollsFault rolls = 0) (h : evRead rolls line no at_ = some x) : 0 ≤ x.tin ∧ x.tin < x.tout ∧ x.tout ≤ 2592000 ∧ x.roll.size ≤ line.size := by
  unfold evRead at h
  split at h
  · rename_i a b c d e f hw
    split at h
    · rename_i hc
      have hb : b.size ≤ line.size := words_size (s := line) (c := 32) (by rw [hw]; simp)
      have hr := (rollsFault_ok rolls hR _ (rollGet_mem hc.2)).1
      have hf := (frames_bd hr).2
      cases h0 : codeRd (rollGet rolls b).rate c <;> cases h1 : codeRd (rollGet rolls b).rate d <;> cases h2 : codeRd (rollGet rolls b).rate e <;> cases h3 : codeRd (rollGet rolls b).rate f <;> rw [h0, h1, h2, h3] at h <;> try (cases h; done)
      unfold evMk at h
      dsimp only at h
      split at h
      · rename_i hh
        injection h with h
        subst h
        have b0 := codeRd_bd h0
        have b1 := codeRd_bd h1
        exact ⟨b0.1, by dsimp only; omega, by dsimp only; omega, hb⟩
      · cases h
    · cases h
  · cases h
/-- The events of lines: the list so far, where the next one lies; the number of a wrong line. -/
noncomputable def evsRead (rolls : List Roll) : List ByteArray → Nat → Int → List Ev → List Ev ⊕ Nat
  | [], _, _, acc => .inl acc
  | s :: r, i, at_, acc => match evRead rolls s (i + 1) at_ with
    | none => .inr i
    | some x => evsRead rolls r (i + 1) (at_ + (x.tout - x.tin)) (acc ++ [x])
structure Parsed where
  list : List Ev
  line : Int
  err : Int
noncomputable def evParse (rolls : List Roll) (text : ByteArray) : Parsed :=
  if ¬ rollsFault rolls = 0 then ⟨[], 0, rollsFault rolls⟩ else if 200000 < text.size then ⟨[], 0, 2⟩ else
    match evsRead rolls (words text 10).dropLast 0 0 [] with
    | .inr i => ⟨[], i, 9⟩
    | .inl l => if ¬ (words text 10).getLastD ⟨#[]⟩ = ⟨#[]⟩ then ⟨[], (words text 10).length - 1, 9⟩ else if ¬ evErr rolls l = 0 then ⟨[], 0, evErr rolls l⟩ else ⟨l, 0, 0⟩
end Go.Proofs.YtkhegeobdcemkaaGreatDoor

/- The generator's words for literal lists; rolls. -/
namespace Go.Proofs.YtkhegeobdcemkaaGreatDoor
set_option linter.unusedVariables false
open Go.RowKit

section
variable {a w w' w1 : World} {sb : Nat} {k : Int}
theorem gRefl (w : World) (sb : Nat) : w.grownBy w (some sb) := ⟨rfl, rfl, rfl, Nat.le_refl _, fun _ _ _ => rfl⟩
theorem gTrans (h : a.grownBy w (some sb)) (g : w.grownBy w1 (some sb)) : a.grownBy w1 (some sb) :=
  ⟨g.os.trans h.os, g.tape.trans h.tape, g.output.trans h.output, Nat.le_trans h.size g.size, fun i hi hne => (g.block i (Nat.lt_of_lt_of_le hi h.size) hne).trans (h.block i hi hne)⟩
theorem gAlloc (h : a.grownBy w (some sb)) (o : Obj) : a.grownBy (w.alloc o) (some sb) :=
  gTrans h ⟨rfl, rfl, rfl, by simp, fun i hi _ => Below.heap_alloc w o i hi⟩
theorem gBelow (h : a.grownBy w (some sb)) (hb : Below w.heap.size w w1) : a.grownBy w1 (some sb) :=
  gTrans h ⟨hb.os, hb.tape, hb.output, hb.size, fun i hi _ => hb.block i hi⟩
theorem gSet (h : a.grownBy w (some sb)) {p : Addr} (hp : a.heap.size ≤ p.block) (v : Value) : a.grownBy (w.setCell p v) (some sb) :=
  ⟨h.os, h.tape, h.output, by simpa [World.setCell] using h.size, fun i hi hne => (Below.heap_setCell w p v i (by omega)).trans (h.block i hi hne)⟩
/-- What a stream's call leaves as it was, as rules for the walk. -/
theorem gcell (h : w.grownBy w1 (some sb)) : (∀ b o, b < w.heap.size → b ≠ sb → w1.cell? ⟨b, o, none⟩ = w.cell? ⟨b, o, none⟩) ∧ (∀ b o, b < w.heap.size → b ≠ sb → w1.frozen? ⟨b, o, none⟩ = w.frozen? ⟨b, o, none⟩) :=
  ⟨fun b o hb hne => World.cell?_of_block (h.block b hb (by simpa using hne)), fun b o hb hne => World.frozen?_of_block (h.block b hb (by simpa using hne))⟩
theorem Str.lt (h : Str w sb k) : sb < w.heap.size := by
  obtain ⟨A, c, l, hb, _⟩ := h
  exact heap_lt hb
theorem Str.nonneg (h : Str w sb k) : 0 ≤ k := by
  obtain ⟨A, c, l, hb, h0, _⟩ := h
  exact h0
theorem Str.keep (h : Str w sb k) (hk : ∀ b, b ≤ sb → w1.heap[b]? = w.heap[b]?) : Str w1 sb k := by
  obtain ⟨A, c, l, hb, h0, hr, hl, ho⟩ := h
  exact ⟨A, c, l, (hk sb (Nat.le_refl _)).trans hb, h0, hr.keep (fun p _ hp => World.cell?_of_block (hk p.block (by omega))), hl, ho⟩
theorem Str.alloc (h : Str w sb k) (o : Obj) : Str (w.alloc o) sb k := h.keep fun b hb => Below.heap_alloc w o b (by have := h.lt; omega)
theorem Str.below (h : Str w sb k) (hb : Below w.heap.size w w1) : Str w1 sb k := h.keep fun b hb' => hb.block b (by have := h.lt; omega)
theorem Str.setCell (h : Str w sb k) {p : Addr} (hp : sb < p.block) (v : Value) : Str (w.setCell p v) sb k := h.keep fun b hb => Below.heap_setCell w p v b (by omega)
theorem Str.drew (h : Str w sb k) : Str w.drew sb k := h
theorem gDrew (h : a.grownBy w (some sb)) : a.grownBy w.drew (some sb) := ⟨h.os, h.tape, h.output, h.size, h.block⟩
theorem Rs.new1 {α : Type} (w : World) (l : List α) (enc1 : α → Value) (T : TypeId) (lo : Nat) (hlo : lo ≤ w.heap.size) : Rs (w.alloc (.cells (l.map enc1).toArray T)) lo (w.heap.size + 1) 1 (fun x => [enc1 x]) (some ⟨w.heap.size, 0, none⟩) l := by
  intro _
  refine ⟨_, _, rfl, hlo, by omega, fun j x hx i u hu => ?_⟩
  have hb : (w.alloc (.cells (l.map enc1).toArray T)).heap[w.heap.size]? = some (.cells (l.map enc1).toArray T (0, 0)) := heap_alloc_new w _
  rw [(str_cells hb).1]
  cases i with
  | zero => simp at hu; simp [hx, hu]
  | succ i => simp at hu

theorem pickL (w : World) (l : List Int) (cs : Array Value) (T n c : Nat) (hcs : cs = (l.map (Value.int .i64)).toArray) (hn : n = l.length) (h0 : 0 < n) (h1 : n ≤ 1000) (hs : Str w sb k) (hk : k ≤ 4611686018427387904) :
    Calls Tryz.prog 81 #[.pointer (some ⟨sb, 0, none⟩), .slice (some ⟨w.heap.size, 0, none⟩) n c] (w.alloc (.cells cs T)) (Took sb k 1 (isInt (· ∈ l)) (w.alloc (.cells cs T))) := by
  subst hcs; subst hn
  exact pick_c sb k _ l c w.heap.size (w.heap.size + 1) _ (hs.alloc _) hk h0 (by omega) (Rs.new1 w l (.int .i64) T _ (Nat.le_refl _)) hs.lt (by simp)
theorem oneL (w : World) (l : List ByteArray) (cs : Array Value) (T n c : Nat) (hcs : cs = (l.map Value.string).toArray) (hn : n = l.length) (h0 : 0 < n) (h1 : n ≤ 1000) (hs : Str w sb k) (hk : k ≤ 4611686018427387904) :
    Calls Tryz.prog 51 #[.pointer (some ⟨sb, 0, none⟩), .slice (some ⟨w.heap.size, 0, none⟩) n c] (w.alloc (.cells cs T)) (Took sb k 1 (isStr (· ∈ l)) (w.alloc (.cells cs T))) := by
  subst hcs; subst hn
  exact one_c sb k _ l c w.heap.size (w.heap.size + 1) _ (hs.alloc _) hk h0 (by omega) (Rs.new1 w l .string T _ (Nat.le_refl _)) hs.lt (by simp)
end

/-- What a roll of the generator stays within. -/
def rollBd (r : Roll) : Prop := r.name.size ≤ 1000 ∧ -10000000 ≤ r.rate ∧ r.rate ≤ 10000000 ∧ -10000000 ≤ r.start ∧ r.start ≤ 10000000 ∧ -10000000 ≤ r.long ∧ r.long ≤ 10000000 ∧ -10000000 ≤ r.drift ∧ r.drift ≤ 10000000
end Go.Proofs.YtkhegeobdcemkaaGreatDoor

/- Where a generator's loop stands: stream, what has been made, the list so far, and blocks of its own. -/
namespace Go.Proofs.YtkhegeobdcemkaaGreatDoor
set_option linter.unusedVariables false
open Go.RowKit

/-- The stream sb has handed out n numbers; since w only it has turned; v is the list l made so far; each block of P lies as it was laid. -/
structure GS {α : Type} (R : Rep α) (e : TypeId) (w : World) (sb : Nat) (l : List α) (v : Value) (P : List (Nat × Array Value × TypeId)) (n : Int) (wx : World) : Prop where
  str : Str wx sb n
  gr : w.grownBy wx (some sb)
  own : Own R wx w.heap.size w.heap.size e l v
  lt : sb < w.heap.size
  prv : ∀ p ∈ P, wx.heap[p.1]? = some (.cells p.2.1 p.2.2 (0, 0)) ∧ w.heap.size ≤ p.1 ∧ v.ownBlock ≠ some p.1
section
variable {α : Type} {R : Rep α} {e : TypeId} {w wx wy : World} {sb : Nat} {l : List α} {v : Value} {P : List (Nat × Array Value × TypeId)} {n n' : Int}
theorem GS.start (h : Str w sb n) : GS R e w sb [] (.slice none 0 0) [] n w := ⟨h, gRefl w sb, Own.nil_, h.lt, fun p hp => by cases hp⟩
theorem GS.size (h : GS R e w sb l v P n wx) : w.heap.size ≤ wx.heap.size := h.gr.size
theorem GS.plt (h : GS R e w sb l v P n wx) {p : Nat × Array Value × TypeId} (hp : p ∈ P) : p.1 < wx.heap.size := heap_lt (h.prv p hp).1
theorem GS.turn (h : GS R e w sb l v P n wx) (hg : wx.grownBy wy (some sb)) (hs : Str wy sb n') : GS R e w sb l v P n' wy :=
  ⟨hs, gTrans h.gr hg, h.own.grown hg (fun k e => by injection e with e; have := h.lt; omega) (Or.inr fun e => by have := h.own.block _ e; have := h.lt; omega), h.lt, fun p hp => by
    obtain ⟨h1, h2, h3⟩ := h.prv p hp
    exact ⟨(hg.block _ (heap_lt h1) (by have := h.lt; simp; omega)).trans h1, h2, h3⟩⟩
theorem GS.alloc (h : GS R e w sb l v P n wx) (o : Obj) : GS R e w sb l v P n (wx.alloc o) := h.turn (gAlloc (gRefl wx sb) o) (h.str.alloc o)
theorem GS.below (h : GS R e w sb l v P n wx) (hb : Below wx.heap.size wx wy) : GS R e w sb l v P n wy := h.turn (gBelow (gRefl wx sb) hb) (h.str.below hb)
theorem GS.drew (h : GS R e w sb l v P n wx) : GS R e w sb l v P n wx.drew := ⟨h.str, gDrew h.gr, h.own.drew, h.lt, h.prv⟩
theorem GS.drewN (h : GS R e w sb l v P n wx) (k : Nat) : GS R e w sb l v P n (wx.drewN k) := ⟨h.str.drewN k, grown_drewN h.gr k, h.own.drewN k, h.lt, h.prv⟩
theorem GS.new (h : GS R e w sb l v P n wx) (cs : Array Value) (T : TypeId) : GS R e w sb l v ((wx.heap.size, cs, T) :: P) n (wx.alloc (.cells cs T)) := by
  have h2 := h.alloc (.cells cs T)
  refine ⟨h2.str, h2.gr, h2.own, h2.lt, fun p hp => ?_⟩
  rcases List.mem_cons.1 hp with rfl | hp
  · exact ⟨heap_alloc_new wx _, h.size, fun e => by have := h.own.block _ e; omega⟩
  · exact h2.prv p hp
theorem GS.set {b i : Nat} {cs : Array Value} {T : TypeId} (h : GS R e w sb l v ((b, cs, T) :: P) n wx) (hf : ∀ {w w' : World} {F : Nat → Prop} {x : α} {cs : List Value}, R.rel w F x cs → R.rel w' F x cs) (u : Value) (hd : ∀ p ∈ P, p.1 ≠ b) : GS R e w sb l v ((b, cs.setIfInBounds i u, T) :: P) n (wx.setCell ⟨b, i, none⟩ u) := by
  obtain ⟨h1, h2, h3⟩ := h.prv (b, cs, T) (by simp)
  dsimp only at h1 h2 h3
  refine ⟨h.str.setCell (by have := h.lt; show sb < b; omega) _, gSet h.gr h2 _, ?_, h.lt, fun p hp => ?_⟩
  · obtain ⟨xs, ho, hl⟩ := h.own
    refine ⟨xs, ⟨ho.1, ?_⟩, ⟨hl.1, fun k x hx => ?_⟩⟩
    · rcases ho.2 with hn | ⟨g, cap, cur, rfl, hb, hg, rest⟩
      · exact .inl hn
      · exact .inr ⟨g, cap, cur, rfl, hb, (Below.heap_setCell wx ⟨b, i, none⟩ u g (by intro e; exact h3 (by rw [e]; rfl))).trans hg, rest⟩
    · exact hf (R.more (hl.2 k x hx) (fun q hq => ⟨hq.1, by simpa [World.setCell] using hq.2.1, hq.2.2⟩))
  · rcases List.mem_cons.1 hp with rfl | hp
    · exact ⟨by simp [World.setCell, Array.getElem?_modify, h1], h2, h3⟩
    · obtain ⟨k1, k2, k3⟩ := h.prv p (by simp [hp])
      exact ⟨(Below.heap_setCell wx ⟨b, i, none⟩ u _ (by have := hd p hp; show p.1 ≠ b; exact this)).trans k1, k2, k3⟩
/-- One element more has been appended. -/
theorem GS.push {l' : List α} {v' : Value} {o : Obj} (h : GS R e w sb l v P n wx) (hown : Own R wy w.heap.size w.heap.size e l' v') (hg : (wx.alloc o).grownBy wy v.ownBlock) : GS R e w sb l' v' [] n wy := by
  have ha := h.alloc o
  have hz := ha.size
  have hk : ∀ b, b < w.heap.size → wy.heap[b]? = (wx.alloc o).heap[b]? := fun b hb => hg.block b (by omega) (fun e => by have := ha.own.block b e.symm; omega)
  exact ⟨ha.str.keep fun b hb => hk b (by have := h.lt; omega), ⟨hg.os.trans ha.gr.os, hg.tape.trans ha.gr.tape, hg.output.trans ha.gr.output, Nat.le_trans ha.gr.size hg.size, fun i hi hne => (hk i hi).trans (ha.gr.block i hi hne)⟩, hown, h.lt, fun p hp => by cases hp⟩
theorem GS.less {Q : List (Nat × Array Value × TypeId)} (h : GS R e w sb l v P n wx) (hq : ∀ p ∈ Q, p ∈ P) : GS R e w sb l v Q n wx := ⟨h.str, h.gr, h.own, h.lt, fun p hp => h.prv p (hq p hp)⟩
theorem GS.cell (h : GS R e w sb l v P n wx) {p : Nat × Array Value × TypeId} (hp : p ∈ P) : (∀ i, wx.cell? ⟨p.1, i, none⟩ = p.2.1[i]?) ∧ (∀ i, wx.frozen? ⟨p.1, i, none⟩ = false) := str_cells (h.prv p hp).1
end
end Go.Proofs.YtkhegeobdcemkaaGreatDoor

/- Append of a whole list; a list that lies in a box of a generator. No program in sight. -/
namespace Go.Proofs.YtkhegeobdcemkaaGreatDoor
set_option linter.unusedVariables false
open Go.RowKit

theorem Lay.oneC {α : Type} {R : Rep α} {w : World} {F : Nat → Prop} {l : List α} {cs : List Value} (h : Lay R w F l cs) (h1 : ∀ x a, R.rel w F x a → ∀ u ∈ a, u.oneCell' = true) : ∀ u ∈ cs, u.oneCell' = true := by
  intro u hu
  obtain ⟨j, hj, rfl⟩ := List.mem_iff_getElem.1 hu
  by_cases hn : R.n = 0
  · rw [h.1, hn] at hj; omega
  · have hq : j / R.n < l.length := (Nat.div_lt_iff_lt_mul (by omega)).2 (by rw [← h.1]; exact hj)
    refine h1 _ _ (h.2 _ _ (List.getElem?_eq_getElem hq)) _ ?_
    rw [List.mem_iff_getElem?]
    refine ⟨j % R.n, ?_⟩
    rw [List.getElem?_take, List.getElem?_drop, if_pos (Nat.mod_lt _ (by omega)), Nat.mul_comm, Nat.div_add_mod]
    exact List.getElem?_eq_getElem hj

section
variable {α : Type} {R : Rep α} {w w' w1 : World} {base lo : Nat} {e : TypeId} {l l' : List α} {v : Value}
theorem Own.app {row : List Value} {xs cs : List Value} {v' : Value} {g H : Nat} (hl : Lay R w (From w lo v.ownBlock) l xs) (hy : Lay R w (From w lo v.ownBlock) l' cs)
    (ho : w1.ownsRow base e R.n v' (l.length + l'.length) (xs ++ cs)) (hg : w.grownBy w1 v.ownBlock) (hv' : v'.ownBlock = some g) (hat : v.ownBlock = some g ∨ (g = H ∧ w.heap.size ≤ H)) : Own R w1 base lo e (l ++ l') v' := by
  have hF : ∀ b, From w lo v.ownBlock b → From w1 lo v'.ownBlock b := fun b hb => ⟨hb.1, Nat.lt_of_lt_of_le hb.2.1 hg.size, by
    rw [hv']
    rcases hat with h | ⟨h, h2⟩
    · rw [← h]; exact hb.2.2
    · intro e; injection e with e; have := hb.2.1; omega⟩
  have hk : ∀ b, From w lo v.ownBlock b → w1.heap[b]? = w.heap[b]? := fun b hb => hg.block b hb.2.1 hb.2.2
  exact ⟨_, by simpa using ho, ((hl.app hy).keep hk).more hF⟩
end

/-- 'append(out, l2...)' at a step of a region that draws its order: l2 is not empty and lies apart from out's row. -/
theorem step_app {P : Program} {α : Type} {R : Rep α} {ops : Array Oper} {o : Oper} {a : Act} {K : Act → World → Prop} {Q : Exit → Act → World → Prop} {E : Prop} (hgd : o.guard = none) (s x : Operand) (t : TypeId)
    (ho : o.op = .call { callee := .builtin .append, args := #[s, x], argTypes := #[t, t] })
    (base lo : Nat) (e : TypeId) (i : TypeInfo) (z : Value) (bytes : Nat) (ht : P.underlying t = some (.slice e)) (hi : P.info? e = some i) (hz : i.zero = some z)
    (hsize : i.size = R.n) (hby : i.bytes = bytes) (hzs : z.cells.size = R.n) (hsz : 0 < R.n)
    (W : World) (v : Value) (l : List α) (hs : a.eval s = v) (hown : Own R W base lo e l v) (l2 : List α) (x2 : Value) (hx : a.eval x = x2) (hl2 : Sli R W (From W lo v.ownBlock) l2 x2)
    (h1 : ∀ (w : World) (F : Nat → Prop) y cs, R.rel w F y cs → ∀ u ∈ cs, u.oneCell' = true) (h0 : 0 < l2.length) (h63 : l.length + l2.length ≤ maxLen) (hbytes : (l.length + l2.length) * bytes ≤ 140737488355328) (hbase : base ≤ W.heap.size)
    (h : ∀ g cap w', Own R w' base lo e (l ++ l2) (.slice (some ⟨g, 0, none⟩) (l.length + l2.length) cap) → W.grownBy w' v.ownBlock → (v.ownBlock = some g ∨ g = W.heap.size) → g < w'.heap.size → K (a.put o.dst (.slice (some ⟨g, 0, none⟩) (l.length + l2.length) cap)) w') :
    if Region.wanted o (yielded ops a.tmps) = true then Oper.wp P o a W K Q else E := by
  obtain ⟨xs, hor, hl⟩ := hown
  obtain ⟨A, c, rfl, hc1, hc2, hc3⟩ := hl2
  obtain ⟨b, off, cs, rfl, hb, hlay, hcell⟩ := hc3 h0
  refine step_append_lies W hgd s x t ho base e i z R.n bytes ht hi hz hsize hby hzs hsz v l.length xs hs hor ⟨b, off, none⟩ l2.length c cs hx hlay.1 ?_ (hlay.oneC (h1 _ _)) h0 h63 hbytes hbase W.heap.size rfl ?_
  · intro j u hj
    have := hcell j u hj
    by_cases hj0 : j = 0
    · subst hj0; simpa [Addr.add] using this
    · simpa [Addr.add, hj0] using this
  · intro g cap w' h2 h3 h4 h5
    exact h g cap w' (Own.app (row := xs) (g := g) (H := W.heap.size) hl hlay h2 h3 rfl (h4.imp id fun h => ⟨h, Nat.le_refl _⟩)) h3 h4 h5

section
variable {α : Type} {R : Rep α} {e : TypeId} {w wx wy : World} {sb : Nat} {l : List α} {v : Value} {P : List (Nat × Array Value × TypeId)} {n n' : Int}
/-- The list has grown, in its row or in a new one. -/
theorem GS.more {l' : List α} {v' : Value} {g : Nat} (h : GS R e w sb l v P n wx) (hown : Own R wy w.heap.size w.heap.size e l' v') (hg : wx.grownBy wy v.ownBlock) (hv : v'.ownBlock = some g) (hat : v.ownBlock = some g ∨ g = wx.heap.size) : GS R e w sb l' v' P n wy := by
  have hz := h.size
  have hk : ∀ b, b < w.heap.size → wy.heap[b]? = wx.heap[b]? := fun b hb => hg.block b (by omega) (fun e => by have := h.own.block b e.symm; omega)
  refine ⟨h.str.keep fun b hb => hk b (by have := h.lt; omega), ⟨hg.os.trans h.gr.os, hg.tape.trans h.gr.tape, hg.output.trans h.gr.output, Nat.le_trans h.gr.size hg.size, fun i hi hne => (hk i hi).trans (h.gr.block i hi hne)⟩, hown, h.lt, fun p hp => ?_⟩
  obtain ⟨k1, k2, k3⟩ := h.prv p hp
  have hlt := heap_lt k1
  refine ⟨(hg.block p.1 hlt (fun e => k3 e.symm)).trans k1, k2, ?_⟩
  rw [hv]
  intro e
  injection e with e
  rcases hat with hat | hat
  · exact k3 (by rw [hat, e])
  · omega
/-- From elements that lie anywhere from the first block on, to such as lie apart from the row. -/
theorem GS.from_ {l2 : List α} {x2 : Value} (h : GS R e w sb l v P n wx) {b0 : Nat} (hb : ∀ g, v.ownBlock = some g → g < b0) (hlo : w.heap.size ≤ b0) (hs : Sli R wx (fun q => b0 ≤ q ∧ q < wx.heap.size) l2 x2) : Sli R wx (From wx w.heap.size v.ownBlock) l2 x2 :=
  hs.more fun q hq => ⟨by omega, hq.2, fun e => by have := hb q e.symm; omega⟩
end
end Go.Proofs.YtkhegeobdcemkaaGreatDoor

/- Where a generator's loop stands whose elements hold lists of their own. No program in sight. -/
namespace Go.Proofs.YtkhegeobdcemkaaGreatDoor
set_option linter.unusedVariables false
open Go.RowKit

/-- Inner lists lie in blocks made since w, apart from the private blocks and from the row. -/
def InF (w wx : World) (v : Value) (P : List (Nat × Array Value × TypeId)) (q : Nat) : Prop := w.heap.size ≤ q ∧ q < wx.heap.size ∧ (∀ p ∈ P, q ≠ p.1) ∧ v.ownBlock ≠ some q
structure GSI {α β : Type} (R : Rep α) (RI : Rep β) (inn : α → List β) (pv : α → Value) (e : TypeId) (w : World) (sb : Nat) (l : List α) (v : Value) (P : List (Nat × Array Value × TypeId)) (n : Int) (wx : World) : Prop where
  gs : GS R e w sb l v P n wx
  inn : ∀ x ∈ l, Sli RI wx (InF w wx v P) (inn x) (pv x)
section
variable {α β : Type} {R : Rep α} {RI : Rep β} {inn : α → List β} {pv : α → Value} {e : TypeId} {w wx wy : World} {sb : Nat} {l : List α} {v : Value} {P Q : List (Nat × Array Value × TypeId)} {n n' : Int}
theorem GSI.start (h : Str w sb n) : GSI R RI inn pv e w sb [] (.slice none 0 0) [] n w := ⟨GS.start h, fun x hx => by cases hx⟩
/-- An inner list that lies so, in a later world. -/
theorem innTurn {k : List β} {u : Value} (h : Sli RI wx (InF w wx v P) k u) (hlt : sb < w.heap.size) (hg : wx.grownBy wy (some sb)) : Sli RI wy (InF w wy v P) k u :=
  (h.keep (fun q hq => hg.block q hq.2.1 (by have := hq.1; simp; omega))).more (fun q hq => ⟨hq.1, Nat.lt_of_lt_of_le hq.2.1 hg.size, hq.2.2⟩)
theorem GSI.turn (h : GSI R RI inn pv e w sb l v P n wx) (hg : wx.grownBy wy (some sb)) (hs : Str wy sb n') : GSI R RI inn pv e w sb l v P n' wy := ⟨h.gs.turn hg hs, fun x hx => innTurn (h.inn x hx) h.gs.lt hg⟩
theorem GSI.alloc (h : GSI R RI inn pv e w sb l v P n wx) (o : Obj) : GSI R RI inn pv e w sb l v P n (wx.alloc o) := h.turn (gAlloc (gRefl wx sb) o) (h.gs.str.alloc o)
theorem GSI.below (h : GSI R RI inn pv e w sb l v P n wx) (hb : Below wx.heap.size wx wy) : GSI R RI inn pv e w sb l v P n wy := h.turn (gBelow (gRefl wx sb) hb) (h.gs.str.below hb)
theorem GSI.drew (h : GSI R RI inn pv e w sb l v P n wx) : GSI R RI inn pv e w sb l v P n wx.drew := ⟨h.gs.drew, fun x hx => (h.inn x hx).drew⟩
theorem innNew {k : List β} {u : Value} (h : Sli RI wx (InF w wx v P) k u) (cs : Array Value) (T : TypeId) : Sli RI (wx.alloc (.cells cs T)) (InF w (wx.alloc (.cells cs T)) v ((wx.heap.size, cs, T) :: P)) k u :=
  (h.alloc _ (fun q hq => hq.2.1)).more (fun q hq => ⟨hq.1, by have := hq.2.1; simp; omega, fun p hp => by
    rcases List.mem_cons.1 hp with rfl | hp
    · have := hq.2.1; dsimp only; omega
    · exact hq.2.2.1 p hp, hq.2.2.2⟩)
theorem GSI.new (h : GSI R RI inn pv e w sb l v P n wx) (cs : Array Value) (T : TypeId) : GSI R RI inn pv e w sb l v ((wx.heap.size, cs, T) :: P) n (wx.alloc (.cells cs T)) := ⟨h.gs.new cs T, fun x hx => innNew (h.inn x hx) cs T⟩
theorem innSet {k : List β} {u z : Value} {b i : Nat} {cs : Array Value} {T : TypeId} (h : Sli RI wx (InF w wx v ((b, cs, T) :: P)) k u) : Sli RI (wx.setCell ⟨b, i, none⟩ z) (InF w (wx.setCell ⟨b, i, none⟩ z) v ((b, cs.setIfInBounds i z, T) :: P)) k u :=
  (h.setCell z (p := ⟨b, i, none⟩) (fun hF => hF.2.2.1 (b, cs, T) (by simp) rfl)).more (fun q hq => ⟨hq.1, by simpa [World.setCell] using hq.2.1, fun p hp => by
    rcases List.mem_cons.1 hp with rfl | hp
    · exact hq.2.2.1 (b, cs, T) (by simp)
    · exact hq.2.2.1 p (by simp [hp]), hq.2.2.2⟩)
theorem GSI.set {b i : Nat} {cs : Array Value} {T : TypeId} (h : GSI R RI inn pv e w sb l v ((b, cs, T) :: P) n wx) (hf : ∀ {w w' : World} {F : Nat → Prop} {x : α} {cs : List Value}, R.rel w F x cs → R.rel w' F x cs) (u : Value) (hd : ∀ p ∈ P, p.1 ≠ b) : GSI R RI inn pv e w sb l v ((b, cs.setIfInBounds i u, T) :: P) n (wx.setCell ⟨b, i, none⟩ u) := ⟨h.gs.set hf u hd, fun x hx => innSet (h.inn x hx)⟩
theorem InF.less (hq : ∀ p ∈ Q, p ∈ P) {q : Nat} (h : InF w wx v P q) : InF w wx v Q q := ⟨h.1, h.2.1, fun p hp => h.2.2.1 p (hq p hp), h.2.2.2⟩
theorem GSI.less (h : GSI R RI inn pv e w sb l v P n wx) (hq : ∀ p ∈ Q, p ∈ P) : GSI R RI inn pv e w sb l v Q n wx := ⟨h.gs.less hq, fun x hx => (h.inn x hx).more fun _ hF => hF.less hq⟩
/-- One element more, with its inner list. -/
theorem GSI.more {x' : α} {v' : Value} {g : Nat} (h : GSI R RI inn pv e w sb l v P n wx) (hown : Own R wy w.heap.size w.heap.size e (l ++ [x']) v') (hg : wx.grownBy wy v.ownBlock) (hv : v'.ownBlock = some g) (hat : v.ownBlock = some g ∨ g = wx.heap.size)
    (hi : Sli RI wx (InF w wx v P) (inn x') (pv x')) : GSI R RI inn pv e w sb (l ++ [x']) v' P n wy := by
  have key : ∀ k u, Sli RI wx (InF w wx v P) k u → Sli RI wy (InF w wy v' P) k u := fun k u hs =>
    (hs.keep fun q hq => hg.block q hq.2.1 fun e => hq.2.2.2 e.symm).more fun q hq => ⟨hq.1, Nat.lt_of_lt_of_le hq.2.1 hg.size, hq.2.2.1, by
      rw [hv]
      intro e
      injection e with e
      rcases hat with hat | hat
      · exact hq.2.2.2 (by rw [hat, e])
      · have := hq.2.1; omega⟩
  exact ⟨h.gs.more hown hg hv hat, fun x hx => by
    rcases List.mem_append.1 hx with hx | hx
    · exact key _ _ (h.inn x hx)
    · rw [List.mem_singleton] at hx; subst hx; exact key _ _ hi⟩
end
end Go.Proofs.YtkhegeobdcemkaaGreatDoor

/- A store into an element of a list of one's own. No program in sight. -/
namespace Go.Proofs.YtkhegeobdcemkaaGreatDoor
set_option linter.unusedVariables false
open Go.RowKit

theorem take_drop_set {xs : List Value} {i a n : Nat} {u : Value} (h : i < a ∨ a + n ≤ i) : ((xs.set i u).drop a).take n = (xs.drop a).take n := by
  apply List.ext_getElem?
  intro j
  simp only [List.getElem?_take, List.getElem?_drop, List.getElem?_set]
  by_cases hj : j < n
  · rw [if_pos hj, if_pos hj, if_neg (by omega)]
  · rw [if_neg hj, if_neg hj]
theorem take_drop_set_in {xs : List Value} {a j n : Nat} {u : Value} (hj : j < n) (hl : a + j < xs.length) : ((xs.set (a + j) u).drop a).take n = ((xs.drop a).take n).set j u := by
  apply List.ext_getElem?
  intro i
  simp only [List.getElem?_take, List.getElem?_drop, List.getElem?_set, List.length_take, List.length_drop]
  by_cases hi : i < n
  · rw [if_pos hi, if_pos hi]
    by_cases e : j = i
    · subst e
      rw [if_pos rfl, if_pos rfl, if_pos hl, if_pos (by omega)]
    · rw [if_neg (by omega), if_neg e]
  · rw [if_neg hi, if_neg hi, if_neg (by omega)]
section
variable {α : Type} {n : Nat} {enc : α → List Value} {hn : ∀ x, (enc x).length = n} {w : World} {base lo : Nat} {e : TypeId} {l : List α} {v : Value}
theorem Lay.modify {F G : Nat → Prop} {w' : World} {xs : List Value} (h : Lay (Rep.flat n enc hn) w F l xs) (f : α → α) (k j : Nat) (u : Value) (hf : ∀ x, enc (f x) = (enc x).set j u) (hj : j < n) (hk : k < l.length) : Lay (Rep.flat n enc hn) w' G (l.modify k f) (xs.set (k * n + j) u) := by
  have h1 : xs.length = l.length * n := h.1
  refine ⟨by rw [List.length_set, List.length_modify]; exact h.1, fun i x hx => ?_⟩
  show ((xs.set (k * n + j) u).drop (i * n)).take n = enc x
  rw [List.getElem?_modify] at hx
  have hkn : (k + 1) * n ≤ l.length * n := Nat.mul_le_mul_right _ hk
  rw [Nat.add_mul, Nat.one_mul] at hkn
  by_cases e : k = i
  · subst e
    rw [List.getElem?_eq_getElem hk] at hx
    simp at hx
    have hz : (xs.drop (k * n)).take n = enc l[k] := h.2 k _ (List.getElem?_eq_getElem hk)
    rw [take_drop_set_in hj (by omega), hz, ← hx, hf]
  · have hx' : l[i]? = some x := by
      rw [← hx]
      cases l[i]? <;> simp [e]
    have hz : (xs.drop (i * n)).take n = enc x := h.2 i x hx'
    rw [take_drop_set ?_, hz]
    rcases Nat.lt_or_gt_of_ne e with h2 | h2
    · left
      have : (k + 1) * n ≤ i * n := Nat.mul_le_mul_right _ h2
      rw [Nat.add_mul, Nat.one_mul] at this
      omega
    · right
      have : (i + 1) * n ≤ k * n := Nat.mul_le_mul_right _ h2
      rw [Nat.add_mul, Nat.one_mul] at this
      omega
/-- The store at cell j of element k. -/
theorem Own.modify {g m cap : Nat} (h : Own (Rep.flat n enc hn) w base lo e l (.slice (some ⟨g, 0, none⟩) m cap)) (f : α → α) (k j : Nat) (u : Value) (hf : ∀ x, enc (f x) = (enc x).set j u) (hj : j < n) (hk : k < l.length) :
    Own (Rep.flat n enc hn) (w.setCell ⟨g, k * n + j, none⟩ u) base lo e (l.modify k f) (.slice (some ⟨g, 0, none⟩) m cap) := by
  obtain ⟨xs, ho, hl⟩ := h
  refine ⟨xs.set (k * n + j) u, ⟨by rw [List.length_set, List.length_modify]; exact ho.1, ?_⟩, hl.modify f k j u hf hj hk⟩
  rcases ho.2 with ⟨hv, _⟩ | ⟨g', cap', cur, hv, hb, hg, h1, h2, h3, h4⟩
  · cases hv
  · injection hv with hv1 hv2 hv3
    injection hv1 with hv1
    injection hv1 with hv1
    subst hv1; subst hv3
    refine .inr ⟨g, cap, cur.setIfInBounds (k * n + j) u, by rw [List.length_modify]; rw [hv2], hb, by simp [World.setCell, Array.getElem?_modify, hg], by rw [List.length_modify]; exact h1, h2, by simpa using h3, ?_⟩
    rw [List.length_modify, ← h4]
    have hkn : (k + 1) * n ≤ l.length * n := Nat.mul_le_mul_right _ hk
    rw [Nat.add_mul, Nat.one_mul] at hkn
    show (cur.setIfInBounds (k * n + j) u).toList.take (l.length * n) = (cur.toList.take (l.length * n)).set (k * n + j) u
    rw [Array.toList_setIfInBounds, List.take_set]
/-- A row that begins behind a block begins behind an earlier one. -/
theorem Own.less {base' lo' : Nat} (h : Own (Rep.flat n enc hn) w base lo e l v) (hb : base' ≤ base) : Own (Rep.flat n enc hn) w base' lo' e l v := by
  obtain ⟨xs, ho, hl⟩ := h
  refine ⟨xs, ⟨ho.1, ?_⟩, hl⟩
  rcases ho.2 with hv | ⟨g, cap, cur, hv, hg, rest⟩
  · exact .inl hv
  · exact .inr ⟨g, cap, cur, hv, by omega, rest⟩
/-- Cell j of element k, and that it may be written. -/
theorem Own.cellAt {g m cap : Nat} (h : Own (Rep.flat n enc hn) w base lo e l (.slice (some ⟨g, 0, none⟩) m cap)) (k : Nat) (hk : k < l.length) (j : Nat) (hj : j < n) : w.cell? ⟨g, k * n + j, none⟩ = (enc l[k])[j]? ∧ w.frozen? ⟨g, k * n + j, none⟩ = false := by
  obtain ⟨xs, ho, hl⟩ := h
  rcases ho.2 with ⟨hv, _⟩ | ⟨g', cap', cur, hv, hb, hg, h1, h2, h3, h4⟩
  · cases hv
  · injection hv with hv1 hv2 hv3
    injection hv1 with hv1
    injection hv1 with hv1
    subst hv1; subst hv3
    obtain ⟨h5, h6⟩ := str_cells hg
    refine ⟨?_, h6 _⟩
    rw [h5]
    have hz : (xs.drop (k * n)).take n = enc l[k] := hl.2 k _ (List.getElem?_eq_getElem hk)
    have hkn : (k + 1) * n ≤ l.length * n := Nat.mul_le_mul_right _ hk
    rw [Nat.add_mul, Nat.one_mul] at hkn
    rw [← hz, List.getElem?_take, if_pos hj, List.getElem?_drop, ← h4, List.getElem?_take, if_pos (by show k * n + j < l.length * n; omega)]
    simp
/-- The row is never nil when it has elements. -/
theorem Own.some_ (h : Own (Rep.flat n enc hn) w base lo e l v) (h0 : 0 < l.length) : ∃ g cap, v = .slice (some ⟨g, 0, none⟩) l.length cap ∧ base ≤ g ∧ g < w.heap.size := by
  rcases h.form with ⟨_, rfl⟩ | ⟨g, cap, hv, hb, hg, _⟩
  · simp at h0
  · exact ⟨g, cap, hv, hb, hg⟩
end
section
variable {α β : Type} {RI : Rep β} {inn : α → List β} {pv : α → Value} {n : Nat} {enc : α → List Value} {hn : ∀ x, (enc x).length = n} {e : TypeId} {w wx wy : World} {sb : Nat} {l : List α} {P : List (Nat × Array Value × TypeId)} {k0 : Int}
theorem GS.modify {g m cap : Nat} (h : GS (Rep.flat n enc hn) e w sb l (.slice (some ⟨g, 0, none⟩) m cap) P k0 wx) (f : α → α) (k j : Nat) (u : Value) (hf : ∀ x, enc (f x) = (enc x).set j u) (hj : j < n) (hk : k < l.length) :
    GS (Rep.flat n enc hn) e w sb (l.modify k f) (.slice (some ⟨g, 0, none⟩) m cap) P k0 (wx.setCell ⟨g, k * n + j, none⟩ u) := by
  have hg := h.own.block g rfl
  refine ⟨h.str.setCell (by have := h.lt; show sb < g; omega) _, gSet h.gr hg.1 _, h.own.modify f k j u hf hj hk, h.lt, fun p hp => ?_⟩
  obtain ⟨h1, h2, h3⟩ := h.prv p hp
  exact ⟨(Below.heap_setCell wx ⟨g, k * n + j, none⟩ u _ (by intro e; exact h3 (by rw [e]; rfl))).trans h1, h2, h3⟩
theorem GSI.modify {g m cap : Nat} (h : GSI (Rep.flat n enc hn) RI inn pv e w sb l (.slice (some ⟨g, 0, none⟩) m cap) P k0 wx) (f : α → α) (k j : Nat) (u : Value) (hf : ∀ x, enc (f x) = (enc x).set j u) (hj : j < n) (hk : k < l.length) (hi : ∀ x, inn (f x) = inn x) (hp : ∀ x, pv (f x) = pv x) :
    GSI (Rep.flat n enc hn) RI inn pv e w sb (l.modify k f) (.slice (some ⟨g, 0, none⟩) m cap) P k0 (wx.setCell ⟨g, k * n + j, none⟩ u) := by
  refine ⟨h.gs.modify f k j u hf hj hk, fun x hx => ?_⟩
  have key : ∀ y ∈ l, Sli RI (wx.setCell ⟨g, k * n + j, none⟩ u) (InF w (wx.setCell ⟨g, k * n + j, none⟩ u) (.slice (some ⟨g, 0, none⟩) m cap) P) (inn y) (pv y) := fun y hy =>
    ((h.inn y hy).setCell u (p := ⟨g, k * n + j, none⟩) (fun hF => hF.2.2.2 rfl)).more fun q hq => ⟨hq.1, by simpa [World.setCell] using hq.2.1, hq.2.2⟩
  obtain ⟨i, hi2⟩ := List.mem_iff_getElem?.1 hx
  rw [List.getElem?_modify] at hi2
  cases hli : l[i]? with
  | none => rw [hli] at hi2; simp at hi2
  | some y =>
    rw [hli] at hi2
    have hm : y ∈ l := List.mem_iff_getElem?.2 ⟨i, hli⟩
    simp at hi2
    by_cases e : k = i
    · rw [if_pos e] at hi2; rw [← hi2, hi, hp]; exact key y hm
    · rw [if_neg e] at hi2; rw [← hi2]; exact key y hm
end
end Go.Proofs.YtkhegeobdcemkaaGreatDoor

/- Where a loop stands that fills a list of its own: what it has left as it was, the list so far, and blocks of its own. No program in sight. -/
namespace Go.Proofs.YtkhegeobdcemkaaGreatDoor
set_option linter.unusedVariables false
open Go.RowKit

structure BO {α : Type} (R : Rep α) (e : TypeId) (w : World) (l : List α) (v : Value) (P : List (Nat × Array Value × TypeId)) (wx : World) : Prop where
  bel : Below w.heap.size w wx
  own : Own R wx w.heap.size w.heap.size e l v
  prv : ∀ p ∈ P, wx.heap[p.1]? = some (.cells p.2.1 p.2.2 (0, 0)) ∧ w.heap.size ≤ p.1 ∧ v.ownBlock ≠ some p.1
section
variable {α : Type} {R : Rep α} {e : TypeId} {w wx wy : World} {l : List α} {v : Value} {P Q : List (Nat × Array Value × TypeId)}
theorem BO.start (w : World) : BO R e w [] (.slice none 0 0) [] w := ⟨Below.refl _ _, Own.nil_, fun p hp => by cases hp⟩
theorem BO.size (h : BO R e w l v P wx) : w.heap.size ≤ wx.heap.size := h.bel.size
theorem BO.plt (h : BO R e w l v P wx) {p : Nat × Array Value × TypeId} (hp : p ∈ P) : p.1 < wx.heap.size := heap_lt (h.prv p hp).1
theorem BO.below (h : BO R e w l v P wx) (hb : Below wx.heap.size wx wy) : BO R e w l v P wy :=
  ⟨h.bel.trans (hb.mono h.size), h.own.below hb, fun p hp => ⟨(hb.block _ (h.plt hp)).trans (h.prv p hp).1, (h.prv p hp).2⟩⟩
theorem BO.alloc (h : BO R e w l v P wx) (o : Obj) : BO R e w l v P (wx.alloc o) := h.below ((Below.refl _ wx).alloc (Nat.le_refl _) o)
theorem BO.drew (h : BO R e w l v P wx) : BO R e w l v P wx.drew := ⟨⟨h.bel.os, h.bel.tape, h.bel.output, h.bel.size, h.bel.block⟩, h.own.drew, h.prv⟩
theorem BO.new (h : BO R e w l v P wx) (cs : Array Value) (T : TypeId) : BO R e w l v ((wx.heap.size, cs, T) :: P) (wx.alloc (.cells cs T)) := by
  have h2 := h.alloc (.cells cs T)
  refine ⟨h2.bel, h2.own, fun p hp => ?_⟩
  rcases List.mem_cons.1 hp with rfl | hp
  · exact ⟨heap_alloc_new wx _, h.size, fun e => by have := h.own.block _ e; omega⟩
  · exact h2.prv p hp
theorem belSet (h : Below w.heap.size w wx) {p : Addr} (hp : w.heap.size ≤ p.block) (u : Value) : Below w.heap.size w (wx.setCell p u) :=
  ⟨h.os, h.tape, h.output, by simpa [World.setCell] using h.size, fun i hi => (Below.heap_setCell wx p u i (by omega)).trans (h.block i hi)⟩
theorem BO.set {b i : Nat} {cs : Array Value} {T : TypeId} (h : BO R e w l v ((b, cs, T) :: P) wx) (hf : ∀ {w w' : World} {F : Nat → Prop} {x : α} {cs : List Value}, R.rel w F x cs → R.rel w' F x cs) (u : Value) (hd : ∀ p ∈ P, p.1 ≠ b) : BO R e w l v ((b, cs.setIfInBounds i u, T) :: P) (wx.setCell ⟨b, i, none⟩ u) := by
  obtain ⟨h1, h2, h3⟩ := h.prv (b, cs, T) (by simp)
  dsimp only at h1 h2 h3
  refine ⟨belSet h.bel h2 u, ?_, fun p hp => ?_⟩
  · obtain ⟨xs, ho, hl⟩ := h.own
    refine ⟨xs, ⟨ho.1, ?_⟩, ⟨hl.1, fun k x hx => ?_⟩⟩
    · rcases ho.2 with hn | ⟨g, cap, cur, rfl, hb, hg, rest⟩
      · exact .inl hn
      · exact .inr ⟨g, cap, cur, rfl, hb, (Below.heap_setCell wx ⟨b, i, none⟩ u g (by intro e; exact h3 (by rw [e]; rfl))).trans hg, rest⟩
    · exact hf (R.more (hl.2 k x hx) (fun q hq => ⟨hq.1, by simpa [World.setCell] using hq.2.1, hq.2.2⟩))
  · rcases List.mem_cons.1 hp with rfl | hp
    · exact ⟨by simp [World.setCell, Array.getElem?_modify, h1], h2, h3⟩
    · obtain ⟨k1, k2, k3⟩ := h.prv p (by simp [hp])
      exact ⟨(Below.heap_setCell wx ⟨b, i, none⟩ u _ (by have := hd p hp; show p.1 ≠ b; exact this)).trans k1, k2, k3⟩
theorem BO.less (h : BO R e w l v P wx) (hq : ∀ p ∈ Q, p ∈ P) : BO R e w l v Q wx := ⟨h.bel, h.own, fun p hp => h.prv p (hq p hp)⟩
theorem BO.cell (h : BO R e w l v P wx) {p : Nat × Array Value × TypeId} (hp : p ∈ P) : (∀ i, wx.cell? ⟨p.1, i, none⟩ = p.2.1[i]?) ∧ (∀ i, wx.frozen? ⟨p.1, i, none⟩ = false) := str_cells (h.prv p hp).1
/-- The list has grown, in its row or in a new one. -/
theorem BO.more {l' : List α} {v' : Value} {g : Nat} (h : BO R e w l v P wx) (hown : Own R wy w.heap.size w.heap.size e l' v') (hg : wx.grownBy wy v.ownBlock) (hv : v'.ownBlock = some g) (hat : v.ownBlock = some g ∨ g = wx.heap.size) : BO R e w l' v' P wy := by
  have hz := h.size
  refine ⟨h.bel.grown hg hz (fun k hk => (h.own.block k hk).1), hown, fun p hp => ?_⟩
  obtain ⟨k1, k2, k3⟩ := h.prv p hp
  have hlt := heap_lt k1
  refine ⟨(hg.block p.1 hlt (fun e => k3 e.symm)).trans k1, k2, ?_⟩
  rw [hv]
  intro e
  injection e with e
  rcases hat with hat | hat
  · exact k3 (by rw [hat, e])
  · omega
/-- A list that a call has made takes the place of an empty one. -/
theorem BO.take {l' : List α} {v' : Value} (h : BO R e w l v P wx) (hb : Below wx.heap.size wx wy) (hown : Own R wy wx.heap.size wx.heap.size e l' v') (hl : Own R wy w.heap.size w.heap.size e l' v') : BO R e w l' v' P wy :=
  ⟨h.bel.trans (hb.mono h.size), hl, fun p hp => ⟨(hb.block _ (h.plt hp)).trans (h.prv p hp).1, (h.prv p hp).2.1, fun e => by have := hown.block _ e; have := h.plt hp; omega⟩⟩
end
section
variable {α : Type} {n : Nat} {enc : α → List Value} {hn : ∀ x, (enc x).length = n} {e : TypeId} {w wx wy : World} {l : List α} {P : List (Nat × Array Value × TypeId)}
theorem BO.modify {g m cap : Nat} (h : BO (Rep.flat n enc hn) e w l (.slice (some ⟨g, 0, none⟩) m cap) P wx) (f : α → α) (k j : Nat) (u : Value) (hf : ∀ x, enc (f x) = (enc x).set j u) (hj : j < n) (hk : k < l.length) :
    BO (Rep.flat n enc hn) e w (l.modify k f) (.slice (some ⟨g, 0, none⟩) m cap) P (wx.setCell ⟨g, k * n + j, none⟩ u) := by
  have hg := h.own.block g rfl
  refine ⟨belSet h.bel hg.1 u, h.own.modify f k j u hf hj hk, fun p hp => ?_⟩
  obtain ⟨h1, h2, h3⟩ := h.prv p hp
  exact ⟨(Below.heap_setCell wx ⟨g, k * n + j, none⟩ u _ (by intro e; exact h3 (by rw [e]; rfl))).trans h1, h2, h3⟩
end
end Go.Proofs.YtkhegeobdcemkaaGreatDoor

/- Where a loop stands beside a stream, that fills a list whose elements hold lists of their own, the last of these under way; with blocks of its own of any kind. No program in sight. -/
namespace Go.Proofs.YtkhegeobdcemkaaGreatDoor
set_option linter.unusedVariables false
open Go.RowKit

abbrev Pb := Nat × (Option Obj → Prop)
/-- A block that holds just these cells. -/
def cellsP (cs : Array Value) (T : TypeId) : Option Obj → Prop := fun o => o = some (.cells cs T (0, 0))
/-- A block that is a map. -/
def mapP {κ : Type} (mk : κ → Value) (m : List (κ × Value)) : Option Obj → Prop := fun o => ∃ es clock, o = some (.map es clock) ∧ epairs es.toList = pairs mk m
def InG (w wx : World) (v vc : Value) (P : List Pb) (q : Nat) : Prop := w.heap.size ≤ q ∧ q < wx.heap.size ∧ (∀ p ∈ P, q ≠ p.1) ∧ v.ownBlock ≠ some q ∧ vc.ownBlock ≠ some q
structure GJ {α β : Type} (R : Rep α) (RI : Rep β) (inn : α → List β) (pv : α → Value) (e e2 : TypeId) (w : World) (sb : Nat) (l : List α) (v : Value) (lc : List β) (vc : Value) (P : List Pb) (n : Int) (wx : World) : Prop where
  str : Str wx sb n
  gr : w.grownBy wx (some sb)
  lt : sb < w.heap.size
  own : Own R wx w.heap.size w.heap.size e l v
  inr : Own RI wx w.heap.size w.heap.size e2 lc vc
  dis : ∀ g, v.ownBlock = some g → vc.ownBlock ≠ some g
  prv : ∀ p ∈ P, p.2 wx.heap[p.1]? ∧ w.heap.size ≤ p.1 ∧ p.1 < wx.heap.size ∧ v.ownBlock ≠ some p.1 ∧ vc.ownBlock ≠ some p.1
  inn : ∀ x ∈ l, Sli RI wx (InG w wx v vc P) (inn x) (pv x)
theorem Own.fkeep {α : Type} {n : Nat} {enc : α → List Value} {hn : ∀ x, (enc x).length = n} {w w' : World} {base lo : Nat} {e : TypeId} {l : List α} {v : Value} (h : Own (Rep.flat n enc hn) w base lo e l v) (hk : ∀ g, v.ownBlock = some g → g < w.heap.size → w'.heap[g]? = w.heap[g]?) : Own (Rep.flat n enc hn) w' base lo e l v := by
  obtain ⟨xs, ho, hl⟩ := h
  refine ⟨xs, ⟨ho.1, ?_⟩, hl⟩
  rcases ho.2 with hv | ⟨g, cap, cur, rfl, hb, hg, rest⟩
  · exact .inl hv
  · exact .inr ⟨g, cap, cur, rfl, hb, by rw [hk g rfl (heap_lt hg)]; exact hg, rest⟩
section
variable {α β : Type} {n1 n2 : Nat} {enc : α → List Value} {h1 : ∀ x, (enc x).length = n1} {enc2 : β → List Value} {h2 : ∀ x, (enc2 x).length = n2} {inn : α → List β} {pv : α → Value} {e e2 : TypeId}
  {w wx wy : World} {sb : Nat} {l : List α} {v : Value} {lc : List β} {vc : Value} {P Q : List Pb} {n n' : Int}
theorem GJ.start (h : Str w sb n) : GJ (Rep.flat n1 enc h1) (Rep.flat n2 enc2 h2) inn pv e e2 w sb [] (.slice none 0 0) [] (.slice none 0 0) [] n w :=
  ⟨h, gRefl w sb, h.lt, Own.nil_, Own.nil_, fun g hg => (by cases hg), fun p hp => (by cases hp), fun x hx => (by cases hx)⟩
theorem GJ.size (h : GJ (Rep.flat n1 enc h1) (Rep.flat n2 enc2 h2) inn pv e e2 w sb l v lc vc P n wx) : w.heap.size ≤ wx.heap.size := h.gr.size
/-- Whatever leaves the rows and the inner lists, and does to the private blocks what it says. -/
theorem GJ.step (h : GJ (Rep.flat n1 enc h1) (Rep.flat n2 enc2 h2) inn pv e e2 w sb l v lc vc P n wx) (hs : Str wy sb n') (hg : w.grownBy wy (some sb)) (hsz : wx.heap.size ≤ wy.heap.size)
    (hk : ∀ b, w.heap.size ≤ b → b < wx.heap.size → (∀ p ∈ P, b ≠ p.1) → wy.heap[b]? = wx.heap[b]?)
    (hP : ∀ p ∈ Q, p.2 wy.heap[p.1]? ∧ p.1 < wy.heap.size ∧ ((∃ q ∈ P, q.1 = p.1) ∨ wx.heap.size ≤ p.1)) (hQ : ∀ p ∈ P, ∃ q ∈ Q, q.1 = p.1) : GJ (Rep.flat n1 enc h1) (Rep.flat n2 enc2 h2) inn pv e e2 w sb l v lc vc Q n' wy := by
  have hz := h.gr.size
  have kv : ∀ g, v.ownBlock = some g → g < wx.heap.size → wy.heap[g]? = wx.heap[g]? := fun g e hlt => hk g (h.own.block g e).1 hlt fun p hp e2 => (h.prv p hp).2.2.2.1 (by rw [e, e2])
  have kc : ∀ g, vc.ownBlock = some g → g < wx.heap.size → wy.heap[g]? = wx.heap[g]? := fun g e hlt => hk g (h.inr.block g e).1 hlt fun p hp e2 => (h.prv p hp).2.2.2.2 (by rw [e, e2])
  refine ⟨hs, hg, h.lt, h.own.fkeep kv, h.inr.fkeep kc, h.dis, fun p hp => ?_, fun x hx => ?_⟩
  · obtain ⟨a, b, c⟩ := hP p hp
    rcases c with ⟨q, hq, e⟩ | c
    · have := h.prv q hq
      rw [e] at this
      exact ⟨a, this.2.1, b, this.2.2.2⟩
    · exact ⟨a, by omega, b, fun e => by have := (h.own.block _ e).2; omega, fun e => by have := (h.inr.block _ e).2; omega⟩
  · refine ((h.inn x hx).keep fun b hF => hk b hF.1 hF.2.1 hF.2.2.1).more fun q hF => ⟨hF.1, Nat.lt_of_lt_of_le hF.2.1 hsz, fun p hp e => ?_, hF.2.2.2⟩
    rcases (hP p hp).2.2 with ⟨r, hr, e2⟩ | c
    · exact hF.2.2.1 r hr (e.trans e2.symm)
    · have := hF.2.1; omega
theorem GJ.turn (h : GJ (Rep.flat n1 enc h1) (Rep.flat n2 enc2 h2) inn pv e e2 w sb l v lc vc P n wx) (hg : wx.grownBy wy (some sb)) (hs : Str wy sb n') : GJ (Rep.flat n1 enc h1) (Rep.flat n2 enc2 h2) inn pv e e2 w sb l v lc vc P n' wy :=
  have hlt := h.lt
  have hz := h.gr.size
  h.step hs (gTrans h.gr hg) hg.size (fun b hb hb2 _ => hg.block b hb2 (by simp; omega)) (fun p hp => by
    obtain ⟨a, b, c, _⟩ := h.prv p hp
    exact ⟨by rw [hg.block p.1 c (by simp; omega)]; exact a, Nat.lt_of_lt_of_le c hg.size, .inl ⟨p, hp, rfl⟩⟩) (fun p hp => ⟨p, hp, rfl⟩)
theorem GJ.alloc (h : GJ (Rep.flat n1 enc h1) (Rep.flat n2 enc2 h2) inn pv e e2 w sb l v lc vc P n wx) (o : Obj) : GJ (Rep.flat n1 enc h1) (Rep.flat n2 enc2 h2) inn pv e e2 w sb l v lc vc P n (wx.alloc o) := h.turn (gAlloc (gRefl wx sb) o) (h.str.alloc o)
theorem GJ.below (h : GJ (Rep.flat n1 enc h1) (Rep.flat n2 enc2 h2) inn pv e e2 w sb l v lc vc P n wx) (hb : Below wx.heap.size wx wy) : GJ (Rep.flat n1 enc h1) (Rep.flat n2 enc2 h2) inn pv e e2 w sb l v lc vc P n wy := h.turn (gBelow (gRefl wx sb) hb) (h.str.below hb)
theorem GJ.drew (h : GJ (Rep.flat n1 enc h1) (Rep.flat n2 enc2 h2) inn pv e e2 w sb l v lc vc P n wx) : GJ (Rep.flat n1 enc h1) (Rep.flat n2 enc2 h2) inn pv e e2 w sb l v lc vc P n wx.drew := h.turn (gDrew (gRefl wx sb)) h.str.drew
theorem GJ.drewN (h : GJ (Rep.flat n1 enc h1) (Rep.flat n2 enc2 h2) inn pv e e2 w sb l v lc vc P n wx) (k : Nat) : GJ (Rep.flat n1 enc h1) (Rep.flat n2 enc2 h2) inn pv e e2 w sb l v lc vc P n (wx.drewN k) := h.turn (grown_drewN (gRefl wx sb) k) (h.str.drewN k)
/-- A block that has been laid since takes its place among the private ones. -/
theorem GJ.block (h : GJ (Rep.flat n1 enc h1) (Rep.flat n2 enc2 h2) inn pv e e2 w sb l v lc vc P n wx) (hg : wx.grownBy wy (some sb)) (hs : Str wy sb n') {B : Nat} {f : Option Obj → Prop} (hB : wx.heap.size ≤ B) (hlt : B < wy.heap.size) (hf : f wy.heap[B]?) : GJ (Rep.flat n1 enc h1) (Rep.flat n2 enc2 h2) inn pv e e2 w sb l v lc vc ((B, f) :: P) n' wy :=
  have h2 := h.turn hg hs
  have hz := h.gr.size
  h.step hs h2.gr hg.size (fun b hb hb2 _ => hg.block b hb2 (by have := h.lt; simp; omega)) (fun p hp => by
    rcases List.mem_cons.1 hp with rfl | hp
    · exact ⟨hf, hlt, .inr hB⟩
    · have := h2.prv p hp
      exact ⟨this.1, this.2.2.1, .inl ⟨p, hp, rfl⟩⟩) (fun p hp => ⟨p, List.mem_cons_of_mem _ hp, rfl⟩)
theorem GJ.new (h : GJ (Rep.flat n1 enc h1) (Rep.flat n2 enc2 h2) inn pv e e2 w sb l v lc vc P n wx) (cs : Array Value) (T : TypeId) : GJ (Rep.flat n1 enc h1) (Rep.flat n2 enc2 h2) inn pv e e2 w sb l v lc vc ((wx.heap.size, cellsP cs T) :: P) n (wx.alloc (.cells cs T)) :=
  h.block (gAlloc (gRefl wx sb) _) (h.str.alloc _) (Nat.le_refl _) (by simp) (heap_alloc_new wx _)
theorem GJ.newMap {κ : Type} (mk : κ → Value) (h : GJ (Rep.flat n1 enc h1) (Rep.flat n2 enc2 h2) inn pv e e2 w sb l v lc vc P n wx) : GJ (Rep.flat n1 enc h1) (Rep.flat n2 enc2 h2) inn pv e e2 w sb l v lc vc ((wx.heap.size, mapP mk ([] : List (κ × Value))) :: P) n (wx.alloc (.map #[] 0)) :=
  h.block (gAlloc (gRefl wx sb) _) (h.str.alloc _) (Nat.le_refl _) (by simp) ⟨#[], 0, heap_alloc_new wx _, rfl⟩
/-- A store into a private block. -/
theorem GJ.set {b i : Nat} {cs : Array Value} {T : TypeId} {u : Value} (h : GJ (Rep.flat n1 enc h1) (Rep.flat n2 enc2 h2) inn pv e e2 w sb l v lc vc P n wx) (hm : (b, cellsP cs T) ∈ P) (hQ : ∀ p ∈ Q, p = (b, cellsP (cs.setIfInBounds i u) T) ∨ (p ∈ P ∧ p.1 ≠ b)) (hQ2 : ∀ p ∈ P, ∃ q ∈ Q, q.1 = p.1) : GJ (Rep.flat n1 enc h1) (Rep.flat n2 enc2 h2) inn pv e e2 w sb l v lc vc Q n (wx.setCell ⟨b, i, none⟩ u) := by
  obtain ⟨a1, a2, a3, _⟩ := h.prv _ hm
  dsimp only at a2 a3
  have hlt := h.lt
  refine h.step (h.str.setCell (by show sb < b; omega) _) (gSet h.gr a2 _) (by simp [World.setCell]) (fun c hc _ hn => Below.heap_setCell wx _ _ c (hn _ hm)) (fun p hp => ?_) hQ2
  rcases hQ p hp with rfl | ⟨hp, hne⟩
  · refine ⟨?_, by simpa [World.setCell] using a3, .inl ⟨_, hm, rfl⟩⟩
    have a1' : wx.heap[b]? = some (.cells cs T (0, 0)) := a1
    show _ = _
    simp [World.setCell, Array.getElem?_modify, a1']
  · obtain ⟨b1, b2, b3, _⟩ := h.prv p hp
    exact ⟨by rw [Below.heap_setCell wx ⟨b, i, none⟩ u p.1 hne]; exact b1, by simpa [World.setCell] using b3, .inl ⟨p, hp, rfl⟩⟩
theorem GJ.set0 {b : Nat} {cs : Array Value} {T : TypeId} (h : GJ (Rep.flat n1 enc h1) (Rep.flat n2 enc2 h2) inn pv e e2 w sb l v lc vc ((b, cellsP cs T) :: P) n wx) (i : Nat) (u : Value) (hd : ∀ p ∈ P, p.1 ≠ b) : GJ (Rep.flat n1 enc h1) (Rep.flat n2 enc2 h2) inn pv e e2 w sb l v lc vc ((b, cellsP (cs.setIfInBounds i u) T) :: P) n (wx.setCell ⟨b, i, none⟩ u) :=
  h.set (b := b) (cs := cs) (T := T) (List.mem_cons_self ..) (fun p hp => by
    rcases List.mem_cons.1 hp with rfl | hp
    · exact .inl rfl
    · exact .inr ⟨List.mem_cons_of_mem _ hp, hd p hp⟩) (fun p hp => by
    rcases List.mem_cons.1 hp with rfl | hp
    · exact ⟨_, List.mem_cons_self .., rfl⟩
    · exact ⟨p, List.mem_cons_of_mem _ hp, rfl⟩)
/-- What a map's store does. -/
theorem GJ.poke {b : Nat} {f g : Option Obj → Prop} (h : GJ (Rep.flat n1 enc h1) (Rep.flat n2 enc2 h2) inn pv e e2 w sb l v lc vc P n wx) (hm : (b, f) ∈ P) (hg : wx.grownBy wy (some b)) (hf : g wy.heap[b]?) (hQ : ∀ p ∈ Q, p = (b, g) ∨ (p ∈ P ∧ p.1 ≠ b)) (hQ2 : ∀ p ∈ P, ∃ q ∈ Q, q.1 = p.1) : GJ (Rep.flat n1 enc h1) (Rep.flat n2 enc2 h2) inn pv e e2 w sb l v lc vc Q n wy := by
  obtain ⟨a1, a2, a3, _⟩ := h.prv _ hm
  dsimp only at a2 a3
  have hlt := h.lt
  have hz := h.gr.size
  have hk : ∀ c, c < wx.heap.size → c ≠ b → wy.heap[c]? = wx.heap[c]? := fun c hc hne => hg.block c hc (by simpa using hne)
  refine h.step (h.str.keep fun c hc => hk c (by omega) (by omega)) ⟨hg.os.trans h.gr.os, hg.tape.trans h.gr.tape, hg.output.trans h.gr.output, Nat.le_trans hz hg.size, fun i hi hne => (hk i (by omega) (by omega)).trans (h.gr.block i hi hne)⟩ hg.size (fun c _ hc hn => hk c hc (hn _ hm)) (fun p hp => ?_) hQ2
  rcases hQ p hp with rfl | ⟨hp, hne⟩
  · exact ⟨hf, Nat.lt_of_lt_of_le a3 hg.size, .inl ⟨_, hm, rfl⟩⟩
  · obtain ⟨b1, b2, b3, _⟩ := h.prv p hp
    exact ⟨by rw [hk p.1 b3 hne]; exact b1, Nat.lt_of_lt_of_le b3 hg.size, .inl ⟨p, hp, rfl⟩⟩
theorem InG.less {q : Nat} (h : InG w wx v vc P q) (hq : ∀ p ∈ Q, p ∈ P) : InG w wx v vc Q q := ⟨h.1, h.2.1, fun p hp => h.2.2.1 p (hq p hp), h.2.2.2⟩
theorem GJ.less (h : GJ (Rep.flat n1 enc h1) (Rep.flat n2 enc2 h2) inn pv e e2 w sb l v lc vc P n wx) (hq : ∀ p ∈ Q, p ∈ P) : GJ (Rep.flat n1 enc h1) (Rep.flat n2 enc2 h2) inn pv e e2 w sb l v lc vc Q n wx := ⟨h.str, h.gr, h.lt, h.own, h.inr, h.dis, fun p hp => h.prv p (hq p hp), fun x hx => (h.inn x hx).more fun q hF => hF.less hq⟩
theorem GJ.cell (h : GJ (Rep.flat n1 enc h1) (Rep.flat n2 enc2 h2) inn pv e e2 w sb l v lc vc P n wx) {b : Nat} {cs : Array Value} {T : TypeId} (hp : (b, cellsP cs T) ∈ P) : (∀ i, wx.cell? ⟨b, i, none⟩ = cs[i]?) ∧ (∀ i, wx.frozen? ⟨b, i, none⟩ = false) := str_cells (h.prv _ hp).1
theorem GJ.map {b : Nat} {κ : Type} {mk : κ → Value} {m : List (κ × Value)} (h : GJ (Rep.flat n1 enc h1) (Rep.flat n2 enc2 h2) inn pv e e2 w sb l v lc vc P n wx) (hp : (b, mapP mk m) ∈ P) : MapL wx b mk m := (h.prv _ hp).1
theorem GJ.plt (h : GJ (Rep.flat n1 enc h1) (Rep.flat n2 enc2 h2) inn pv e e2 w sb l v lc vc P n wx) {b : Nat} {f : Option Obj → Prop} (hp : (b, f) ∈ P) : w.heap.size ≤ b ∧ b < wx.heap.size := ⟨(h.prv _ hp).2.1, (h.prv _ hp).2.2.1⟩
/-- A row of one's own has grown, or begun anew. -/
theorem grow_all (h : GJ (Rep.flat n1 enc h1) (Rep.flat n2 enc2 h2) inn pv e e2 w sb l v lc vc P n wx) {vr vr' : Value} {g : Nat} (hg : wx.grownBy wy vr.ownBlock) (hr : ∀ q, vr.ownBlock = some q → w.heap.size ≤ q) :
    Str wy sb n ∧ w.grownBy wy (some sb) ∧ ∀ b, b < wx.heap.size → vr.ownBlock ≠ some b → wy.heap[b]? = wx.heap[b]? := by
  have hz := h.gr.size
  have hlt := h.lt
  have hk : ∀ b, b < wx.heap.size → vr.ownBlock ≠ some b → wy.heap[b]? = wx.heap[b]? := fun b hb hne => hg.block b hb (fun e => hne e.symm)
  have hw : ∀ b, b < w.heap.size → wy.heap[b]? = wx.heap[b]? := fun b hb => hk b (by omega) (fun e => by have := hr b e; omega)
  exact ⟨h.str.keep fun b hb => hw b (by omega), ⟨hg.os.trans h.gr.os, hg.tape.trans h.gr.tape, hg.output.trans h.gr.output, Nat.le_trans hz hg.size, fun i hi hne => (hw i hi).trans (h.gr.block i hi hne)⟩, hk⟩
/-- One more in the list under way. -/
theorem GJ.moreC {lc' : List β} {vc' : Value} {g : Nat} (h : GJ (Rep.flat n1 enc h1) (Rep.flat n2 enc2 h2) inn pv e e2 w sb l v lc vc P n wx) (hown : Own (Rep.flat n2 enc2 h2) wy w.heap.size w.heap.size e2 lc' vc') (hg : wx.grownBy wy vc.ownBlock) (hv : vc'.ownBlock = some g) (hat : vc.ownBlock = some g ∨ g = wx.heap.size) : GJ (Rep.flat n1 enc h1) (Rep.flat n2 enc2 h2) inn pv e e2 w sb l v lc' vc' P n wy := by
  obtain ⟨a1, a2, a3⟩ := grow_all (vr' := vc') (g := g) h hg (fun q e => (h.inr.block q e).1)
  have hfar : ∀ b, b < wx.heap.size → vc.ownBlock ≠ some b → vc'.ownBlock ≠ some b := fun b hb hne e => by
    rw [hv] at e
    injection e with e
    rcases hat with hat | hat
    · exact hne (by rw [hat, e])
    · omega
  refine ⟨a1, a2, h.lt, h.own.fkeep fun q e hlt => a3 q hlt (h.dis q e), hown, fun q e => hfar q (h.own.block q e).2 (h.dis q e), fun p hp => ?_, fun x hx => ?_⟩
  · obtain ⟨b1, b2, b3, b4, b5⟩ := h.prv p hp
    exact ⟨by rw [a3 p.1 b3 b5]; exact b1, b2, Nat.lt_of_lt_of_le b3 hg.size, b4, hfar p.1 b3 b5⟩
  · exact ((h.inn x hx).keep fun b hF => a3 b hF.2.1 hF.2.2.2.2).more fun q hF => ⟨hF.1, Nat.lt_of_lt_of_le hF.2.1 hg.size, hF.2.2.1, hF.2.2.2.1, hfar q hF.2.1 hF.2.2.2.2⟩
/-- The list under way has become the new element's. -/
theorem GJ.push {x : α} {v' : Value} {g : Nat} (h : GJ (Rep.flat n1 enc h1) (Rep.flat n2 enc2 h2) inn pv e e2 w sb l v lc vc P n wx) (hown : Own (Rep.flat n1 enc h1) wy w.heap.size w.heap.size e (l ++ [x]) v') (hg : wx.grownBy wy v.ownBlock) (hv : v'.ownBlock = some g) (hat : v.ownBlock = some g ∨ g = wx.heap.size) (hi : inn x = lc) (hp : pv x = vc) :
    GJ (Rep.flat n1 enc h1) (Rep.flat n2 enc2 h2) inn pv e e2 w sb (l ++ [x]) v' [] (.slice none 0 0) P n wy := by
  obtain ⟨a1, a2, a3⟩ := grow_all (vr' := v') (g := g) h hg (fun q e => (h.own.block q e).1)
  have hfar : ∀ b, b < wx.heap.size → v.ownBlock ≠ some b → v'.ownBlock ≠ some b := fun b hb hne e => by
    rw [hv] at e
    injection e with e
    rcases hat with hat | hat
    · exact hne (by rw [hat, e])
    · omega
  refine ⟨a1, a2, h.lt, hown, Own.nil_, fun q _ e => (by cases e), fun p hp => ?_, fun y hy => ?_⟩
  · obtain ⟨b1, b2, b3, b4, b5⟩ := h.prv p hp
    exact ⟨by rw [a3 p.1 b3 b4]; exact b1, b2, Nat.lt_of_lt_of_le b3 hg.size, hfar p.1 b3 b4, fun e => (by cases e)⟩
  · rcases List.mem_append.1 hy with hy | hy
    · exact ((h.inn y hy).keep fun b hF => a3 b hF.2.1 hF.2.2.2.1).more fun q hF => ⟨hF.1, Nat.lt_of_lt_of_le hF.2.1 hg.size, hF.2.2.1, hfar q hF.2.1 hF.2.2.2.1, fun e => (by cases e)⟩
    · rw [List.mem_singleton] at hy
      subst hy
      rw [hi, hp]
      have hs : Sli (Rep.flat n2 enc2 h2) wx (fun q => vc.ownBlock = some q) lc vc := by
        obtain ⟨xs, ho, hl⟩ := h.inr
        exact Sli.own ho ⟨hl.1, hl.2⟩ rfl (fun b c e => by rw [e]; rfl)
      refine (hs.keep fun b hb => a3 b (h.inr.block b hb).2 (fun e => h.dis b e hb)).more fun q hb => ⟨(h.inr.block q hb).1, Nat.lt_of_lt_of_le (h.inr.block q hb).2 hg.size, fun p hp e => (h.prv p hp).2.2.2.2 (by rw [← e]; exact hb), hfar q (h.inr.block q hb).2 (fun e => h.dis q e hb), fun e => (by cases e)⟩
/-- A block laid early whose cells are stored later, one behind the other. -/
def setFrom (w : World) (B : Nat) : Nat → List Value → World
  | _, [] => w
  | i, u :: us => setFrom (w.setCell ⟨B, i, none⟩ u) B (i + 1) us
theorem setFrom_heap (B : Nat) (T : TypeId) : ∀ (us pre post : List Value) (w : World), w.heap[B]? = some (.cells (pre ++ post).toArray T (0, 0)) → us.length = post.length → (setFrom w B pre.length us).heap[B]? = some (.cells (pre ++ us).toArray T (0, 0))
  | [], pre, post, w, h, hl => by
    have : post = [] := List.length_eq_zero_iff.1 hl.symm
    subst this
    exact h
  | u :: us, pre, [], w, h, hl => by cases hl
  | u :: us, pre, x :: post, w, h, hl => by
    have h2 : (w.setCell ⟨B, pre.length, none⟩ u).heap[B]? = some (.cells ((pre ++ [u]) ++ post).toArray T (0, 0)) := by
      simp [World.setCell, Array.getElem?_modify, h]
    have := setFrom_heap B T us (pre ++ [u]) post _ h2 (by simpa using hl)
    simpa [setFrom] using this
theorem setFrom_far {B b : Nat} (hb : b ≠ B) : ∀ (us : List Value) (i : Nat) (w : World), (setFrom w B i us).heap[b]? = w.heap[b]?
  | [], _, _ => rfl
  | u :: us, i, w => (setFrom_far hb us (i + 1) _).trans (Below.heap_setCell w ⟨B, i, none⟩ u b hb)
theorem setFrom_size {B : Nat} : ∀ (us : List Value) (i : Nat) (w : World), (setFrom w B i us).heap.size = w.heap.size
  | [], _, _ => rfl
  | u :: us, i, w => (setFrom_size us (i + 1) _).trans (by simp [World.setCell])
theorem setFrom_gr {a : World} {s B : Nat} (hB : a.heap.size ≤ B) : ∀ (us : List Value) (i : Nat) (w : World), a.grownBy w (some s) → a.grownBy (setFrom w B i us) (some s)
  | [], _, _, h => h
  | u :: us, i, w, h => setFrom_gr hB us (i + 1) _ (gSet h hB u)
theorem setFrom_str {s B : Nat} {k : Int} (hB : s < B) : ∀ (us : List Value) (i : Nat) (w : World), Str w s k → Str (setFrom w B i us) s k
  | [], _, _, h => h
  | u :: us, i, w, h => setFrom_str hB us (i + 1) _ (h.setCell hB u)
theorem GJ.blockSet (h : GJ (Rep.flat n1 enc h1) (Rep.flat n2 enc2 h2) inn pv e e2 w sb l v lc vc P n wx) (hg : wx.grownBy wy (some sb)) (hs : Str wy sb n') {B : Nat} {cs : List Value} {T : TypeId} (hB : wx.heap.size ≤ B) (hb : wy.heap[B]? = some (.cells cs.toArray T (0, 0))) (us : List Value) (hl : us.length = cs.length) : GJ (Rep.flat n1 enc h1) (Rep.flat n2 enc2 h2) inn pv e e2 w sb l v lc vc ((B, cellsP us.toArray T) :: P) n' (setFrom wy B 0 us) :=
  h.block (setFrom_gr hB us 0 _ hg) (setFrom_str (by have := h.lt; have := h.gr.size; omega) us 0 _ hs) hB (by rw [setFrom_size]; exact heap_lt hb) (setFrom_heap B T us [] cs wy hb hl)
end
end Go.Proofs.YtkhegeobdcemkaaGreatDoor

/- A list of one's own whose elements hold lists of their own that may still grow. No program in sight. -/
namespace Go.Proofs.YtkhegeobdcemkaaGreatDoor
set_option linter.unusedVariables false
open Go.RowKit

section
variable {α : Type} {n : Nat} {enc : α → List Value} {hn : ∀ x, (enc x).length = n} {w w' : World} {base lo : Nat} {e : TypeId} {l : List α} {v : Value}
/-- A row of plain cells stays where its own block stays. -/
theorem Own.keepF (h : Own (Rep.flat n enc hn) w base lo e l v) (hk : ∀ g, v.ownBlock = some g → w'.heap[g]? = w.heap[g]?) (hs : w.heap.size ≤ w'.heap.size) : Own (Rep.flat n enc hn) w' base lo e l v := by
  obtain ⟨xs, ho, hl⟩ := h
  refine ⟨xs, ⟨ho.1, ?_⟩, hl⟩
  rcases ho.2 with hn | ⟨g, cap, cur, rfl, hb, hg, rest⟩
  · exact .inl hn
  · exact .inr ⟨g, cap, cur, rfl, hb, by rw [hk g rfl]; exact hg, rest⟩
/-- The cells of a row of plain cells, where its own block lies. -/
theorem Own.sliF {F : Nat → Prop} (h : Own (Rep.flat n enc hn) w base lo e l v) (hB : ∀ g, v.ownBlock = some g → F g) : Sli (Rep.flat n enc hn) w F l v := by
  obtain ⟨xs, ho, hl⟩ := h
  exact Sli.own (R := Rep.flat n enc hn) ho hl rfl (fun b c hv => hB b (by rw [hv]; rfl))
end
structure NS {α β : Type} (R : Rep α) (RI : Rep β) (inn : α → List β) (pv : α → Value) (e eI : TypeId) (w : World) (l : List α) (v : Value) (P : List (Nat × Array Value × TypeId)) (wx : World) : Prop where
  bo : BO R e w l v P wx
  row : ∀ (i : Nat) x, l[i]? = some x → Own RI wx w.heap.size w.heap.size eI (inn x) (pv x) ∧ (∀ g, (pv x).ownBlock = some g → v.ownBlock ≠ some g ∧ ∀ p ∈ P, p.1 ≠ g)
  dis : ∀ (i j : Nat) x y, l[i]? = some x → l[j]? = some y → i ≠ j → Dis (pv x) (pv y)
section
variable {α β : Type} {n m : Nat} {enc : α → List Value} {hn : ∀ x, (enc x).length = n} {encI : β → List Value} {hm : ∀ x, (encI x).length = m} {inn : α → List β} {pv : α → Value} {e eI : TypeId} {w wx wy : World} {l : List α} {v : Value} {P Q : List (Nat × Array Value × TypeId)}
abbrev NF (n m : Nat) (enc : α → List Value) (hn : ∀ x, (enc x).length = n) (encI : β → List Value) (hm : ∀ x, (encI x).length = m) (inn : α → List β) (pv : α → Value) (e eI : TypeId) (w : World) (l : List α) (v : Value) (P : List (Nat × Array Value × TypeId)) (wx : World) : Prop := NS (Rep.flat n enc hn) (Rep.flat m encI hm) inn pv e eI w l v P wx
theorem NS.start (w : World) : NF n m enc hn encI hm inn pv e eI w [] (.slice none 0 0) [] w := ⟨BO.start w, fun i x h => by simp at h, fun i j x y h => by simp at h⟩
theorem NS.below (h : NF n m enc hn encI hm inn pv e eI w l v P wx) (hb : Below wx.heap.size wx wy) : NF n m enc hn encI hm inn pv e eI w l v P wy :=
  ⟨h.bo.below hb, fun i x hx => ⟨(h.row i x hx).1.below hb, (h.row i x hx).2⟩, h.dis⟩
theorem NS.alloc (h : NF n m enc hn encI hm inn pv e eI w l v P wx) (o : Obj) : NF n m enc hn encI hm inn pv e eI w l v P (wx.alloc o) := h.below ((Below.refl _ wx).alloc (Nat.le_refl _) o)
theorem NS.drew (h : NF n m enc hn encI hm inn pv e eI w l v P wx) : NF n m enc hn encI hm inn pv e eI w l v P wx.drew := ⟨h.bo.drew, fun i x hx => ⟨(h.row i x hx).1.drew, (h.row i x hx).2⟩, h.dis⟩
theorem NS.new (h : NF n m enc hn encI hm inn pv e eI w l v P wx) (cs : Array Value) (T : TypeId) : NF n m enc hn encI hm inn pv e eI w l v ((wx.heap.size, cs, T) :: P) (wx.alloc (.cells cs T)) := by
  have h2 := h.alloc (.cells cs T)
  refine ⟨h.bo.new cs T, fun i x hx => ⟨(h2.row i x hx).1, fun g hg => ⟨((h.row i x hx).2 g hg).1, fun p hp => ?_⟩⟩, h.dis⟩
  rcases List.mem_cons.1 hp with rfl | hp
  · have := (h.row i x hx).1.block g hg; dsimp only; omega
  · exact ((h.row i x hx).2 g hg).2 p hp
theorem NS.set {b i : Nat} {cs : Array Value} {T : TypeId} (h : NF n m enc hn encI hm inn pv e eI w l v ((b, cs, T) :: P) wx) (u : Value) (hd : ∀ p ∈ P, p.1 ≠ b) : NF n m enc hn encI hm inn pv e eI w l v ((b, cs.setIfInBounds i u, T) :: P) (wx.setCell ⟨b, i, none⟩ u) := by
  refine ⟨h.bo.set (fun h => h) u hd, fun k x hx => ⟨(h.row k x hx).1.keepF (fun g hg => Below.heap_setCell wx ⟨b, i, none⟩ u g (fun e => ((h.row k x hx).2 g hg).2 (b, cs, T) (by simp) e.symm)) (by simp [World.setCell]), fun g hg => ⟨((h.row k x hx).2 g hg).1, fun p hp => ?_⟩⟩, h.dis⟩
  rcases List.mem_cons.1 hp with rfl | hp
  · exact ((h.row k x hx).2 g hg).2 (b, cs, T) (by simp)
  · exact ((h.row k x hx).2 g hg).2 p (by simp [hp])
theorem NS.less (h : NF n m enc hn encI hm inn pv e eI w l v P wx) (hq : ∀ p ∈ Q, p ∈ P) : NF n m enc hn encI hm inn pv e eI w l v Q wx := ⟨h.bo.less hq, fun i x hx => ⟨(h.row i x hx).1, fun g hg => ⟨((h.row i x hx).2 g hg).1, fun p hp => ((h.row i x hx).2 g hg).2 p (hq p hp)⟩⟩, h.dis⟩
theorem NS.cell (h : NF n m enc hn encI hm inn pv e eI w l v P wx) {p : Nat × Array Value × TypeId} (hp : p ∈ P) : (∀ i, wx.cell? ⟨p.1, i, none⟩ = p.2.1[i]?) ∧ (∀ i, wx.frozen? ⟨p.1, i, none⟩ = false) := h.bo.cell hp
/-- One element more, whose own list is still empty. -/
theorem NS.push {x' : α} {v' : Value} {g : Nat} (h : NF n m enc hn encI hm inn pv e eI w l v P wx) (hown : Own (Rep.flat n enc hn) wy w.heap.size w.heap.size e (l ++ [x']) v') (hg : wx.grownBy wy v.ownBlock) (hv : v'.ownBlock = some g) (hat : v.ownBlock = some g ∨ g = wx.heap.size)
    (hi : inn x' = []) (hp : pv x' = .slice none 0 0) : NF n m enc hn encI hm inn pv e eI w (l ++ [x']) v' P wy := by
  have hlast : ∀ (i : Nat) x, (l ++ [x'])[i]? = some x → (i < l.length ∧ l[i]? = some x) ∨ (i = l.length ∧ x = x') := fun i x hx => by
    by_cases hil : i < l.length
    · rw [List.getElem?_append_left hil] at hx; exact .inl ⟨hil, hx⟩
    · have hlt := (List.getElem?_eq_some_iff.1 hx).1
      simp at hlt
      have : i = l.length := by omega
      subst this
      rw [List.getElem?_append_right (Nat.le_refl _)] at hx
      simp at hx
      exact .inr ⟨rfl, hx.symm⟩
  refine ⟨h.bo.more hown hg hv hat, fun i x hx => ?_, fun i j x y hx hy hij => ?_⟩
  · rcases hlast i x hx with ⟨hil, hx⟩ | ⟨_, rfl⟩
    · have hr := h.row i x hx
      refine ⟨hr.1.keepF (fun k hk => hg.block k (hr.1.block k hk).2 (fun e => (hr.2 k hk).1 e.symm)) hg.size, fun k hk => ⟨?_, (hr.2 k hk).2⟩⟩
      rw [hv]
      intro e
      injection e with e
      rcases hat with hat | hat
      · exact (hr.2 k hk).1 (by rw [hat, e])
      · have := (hr.1.block k hk).2; omega
    · rw [hi, hp]
      exact ⟨Own.nil_, fun g hg => by cases hg⟩
  · rcases hlast i x hx with ⟨hil, hx⟩ | ⟨hi2, rfl⟩
    · rcases hlast j y hy with ⟨hjl, hy⟩ | ⟨_, rfl⟩
      · exact h.dis i j x y hx hy hij
      · rw [hp]; exact Dis.nil_
    · rcases hlast j y hy with ⟨hjl, hy⟩ | ⟨hj2, rfl⟩
      · rw [hp]; exact Dis.nil_.symm
      · omega
/-- The list of element k has grown, and stands in the element again. -/
theorem NS.inner {g0 M cap k j : Nat} (h : NF n m enc hn encI hm inn pv e eI w l (.slice (some ⟨g0, 0, none⟩) M cap) P wx) (hk : k < l.length) {u : Value} {g' : Nat} {li : List β}
    (hown : Own (Rep.flat m encI hm) wy w.heap.size w.heap.size eI li u) (hg : wx.grownBy wy (pv l[k]).ownBlock) (hv : u.ownBlock = some g') (hat : (pv l[k]).ownBlock = some g' ∨ wx.heap.size ≤ g')
    (f : α → α) (hf : ∀ x, enc (f x) = (enc x).set j u) (hj : j < n) (hinn : inn (f l[k]) = li) (hpv : pv (f l[k]) = u) :
    NF n m enc hn encI hm inn pv e eI w (l.modify k f) (.slice (some ⟨g0, 0, none⟩) M cap) P (wy.setCell ⟨g0, k * n + j, none⟩ u) := by
  have hrk := h.row k l[k] (List.getElem?_eq_getElem hk)
  have h0 := h.bo.own.block g0 rfl
  have hz := h.bo.size
  have hne : ∀ q, (pv l[k]).ownBlock = some q → q ≠ g0 := fun q hq e => (hrk.2 q hq).1 (by rw [e]; rfl)
  have hg0 : g' ≠ g0 := by
    rcases hat with hat | hat
    · exact hne g' hat
    · omega
  have hbo : BO (Rep.flat n enc hn) e w l (.slice (some ⟨g0, 0, none⟩) M cap) P wy := by
    refine ⟨h.bo.bel.grown hg hz (fun q hq => (hrk.1.block q hq).1), h.bo.own.keepF (fun q hq => ?_) hg.size, fun p hp => ?_⟩
    · injection hq with hq; subst hq
      exact hg.block _ h0.2 (fun e => hne _ e.symm rfl)
    · obtain ⟨k1, k2, k3⟩ := h.bo.prv p hp
      exact ⟨(hg.block p.1 (heap_lt k1) (fun e => (hrk.2 p.1 e.symm).2 p hp rfl)).trans k1, k2, k3⟩
  have hmod : ∀ (i : Nat) x, (l.modify k f)[i]? = some x → (i = k ∧ x = f l[k]) ∨ (i ≠ k ∧ l[i]? = some x) := fun i x hx => by
    rw [List.getElem?_modify] at hx
    by_cases e : k = i
    · subst e
      rw [List.getElem?_eq_getElem hk] at hx
      simp at hx
      exact .inl ⟨rfl, hx.symm⟩
    · refine .inr ⟨fun e2 => e e2.symm, ?_⟩
      rw [← hx]
      cases l[i]? <;> simp [e]
  refine ⟨hbo.modify f k j u hf hj hk, fun i x hx => ?_, fun i i2 x y hx hy hij => ?_⟩
  · rcases hmod i x hx with ⟨rfl, rfl⟩ | ⟨hik, hx⟩
    · rw [hinn, hpv]
      refine ⟨hown.keepF (fun q hq => Below.heap_setCell wy ⟨g0, i * n + j, none⟩ u q (fun e => ?_)) (by simp [World.setCell]), fun q hq => ?_⟩
      · rw [hv] at hq; injection hq with hq; exact hg0 (hq.trans e)
      · rw [hv] at hq; injection hq with hq; subst hq
        refine ⟨fun e => hg0 (by injection e with e; exact e.symm), fun p hp e => ?_⟩
        rcases hat with hat | hat
        · exact (hrk.2 _ hat).2 p hp e
        · have := h.bo.plt hp; omega
    · have hr := h.row i x hx
      have hd := h.dis i k x l[k] hx (List.getElem?_eq_getElem hk) hik
      refine ⟨(hr.1.keepF (fun q hq => hg.block q (hr.1.block q hq).2 (fun e => hd q hq e.symm)) hg.size).keepF (fun q hq => Below.heap_setCell wy ⟨g0, k * n + j, none⟩ u q (fun e => (hr.2 q hq).1 (by rw [e]; rfl))) (by simp [World.setCell]), hr.2⟩
  · have key : ∀ (i : Nat) x, l[i]? = some x → i ≠ k → Dis (pv x) u := fun i x hx hik q hq hu => by
      rw [hv] at hu; injection hu with hu; subst hu
      rcases hat with hat | hat
      · exact h.dis i k x l[k] hx (List.getElem?_eq_getElem hk) hik _ hq hat
      · have := ((h.row i x hx).1.block _ hq).2; omega
    rcases hmod i x hx with ⟨e1, e2⟩ | ⟨hik, hx1⟩
    · rcases hmod i2 y hy with ⟨e3, e4⟩ | ⟨hik2, hy1⟩
      · exact absurd (e1.trans e3.symm) hij
      · rw [e2, hpv]; exact (key i2 y hy1 hik2).symm
    · rcases hmod i2 y hy with ⟨e3, e4⟩ | ⟨hik2, hy1⟩
      · rw [e4, hpv]; exact key i x hx1 hik
      · exact h.dis i i2 x y hx1 hy1 hij
end
end Go.Proofs.YtkhegeobdcemkaaGreatDoor

/- Where a loop stands that fills a list of its own beside blocks of its own of any kind (maps, too). No program in sight. -/
namespace Go.Proofs.YtkhegeobdcemkaaGreatDoor
set_option linter.unusedVariables false
open Go.RowKit

structure BM {α : Type} (R : Rep α) (e : TypeId) (w : World) (l : List α) (v : Value) (P : List Pb) (wx : World) : Prop where
  bel : Below w.heap.size w wx
  own : Own R wx w.heap.size w.heap.size e l v
  prv : ∀ p ∈ P, p.2 wx.heap[p.1]? ∧ w.heap.size ≤ p.1 ∧ p.1 < wx.heap.size ∧ v.ownBlock ≠ some p.1
section
variable {α : Type} {n : Nat} {enc : α → List Value} {hn : ∀ x, (enc x).length = n} {e : TypeId} {w wx wy : World} {l l' : List α} {v v' : Value} {P Q : List Pb}
theorem BM.start (w : World) : BM (Rep.flat n enc hn) e w [] (.slice none 0 0) [] w := ⟨Below.refl _ _, Own.nil_, fun p hp => by cases hp⟩
theorem BM.size (h : BM (Rep.flat n enc hn) e w l v P wx) : w.heap.size ≤ wx.heap.size := h.bel.size
theorem BM.below (h : BM (Rep.flat n enc hn) e w l v P wx) (hb : Below wx.heap.size wx wy) : BM (Rep.flat n enc hn) e w l v P wy :=
  ⟨h.bel.trans (hb.mono h.size), h.own.below hb, fun p hp => by
    obtain ⟨a, b, c, d⟩ := h.prv p hp
    exact ⟨by rw [hb.block p.1 c]; exact a, b, Nat.lt_of_lt_of_le c hb.size, d⟩⟩
theorem BM.alloc (h : BM (Rep.flat n enc hn) e w l v P wx) (o : Obj) : BM (Rep.flat n enc hn) e w l v P (wx.alloc o) := h.below ((Below.refl _ wx).alloc (Nat.le_refl _) o)
theorem BM.drew (h : BM (Rep.flat n enc hn) e w l v P wx) : BM (Rep.flat n enc hn) e w l v P wx.drew := ⟨⟨h.bel.os, h.bel.tape, h.bel.output, h.bel.size, h.bel.block⟩, h.own.drew, h.prv⟩
theorem BM.less (h : BM (Rep.flat n enc hn) e w l v P wx) (hq : ∀ p ∈ Q, p ∈ P) : BM (Rep.flat n enc hn) e w l v Q wx := ⟨h.bel, h.own, fun p hp => h.prv p (hq p hp)⟩
/-- A block that has been laid since takes its place among the private ones. -/
theorem BM.block (h : BM (Rep.flat n enc hn) e w l v P wx) (hb : Below wx.heap.size wx wy) {B : Nat} {f : Option Obj → Prop} (hB : wx.heap.size ≤ B) (hlt : B < wy.heap.size) (hf : f wy.heap[B]?) : BM (Rep.flat n enc hn) e w l v ((B, f) :: P) wy := by
  have h2 := h.below hb
  refine ⟨h2.bel, h2.own, fun p hp => ?_⟩
  rcases List.mem_cons.1 hp with rfl | hp
  · exact ⟨hf, Nat.le_trans h.size hB, hlt, fun e => by have := (h.own.block _ e).2; dsimp only at this; omega⟩
  · exact h2.prv p hp
theorem BM.new (h : BM (Rep.flat n enc hn) e w l v P wx) (cs : Array Value) (T : TypeId) : BM (Rep.flat n enc hn) e w l v ((wx.heap.size, cellsP cs T) :: P) (wx.alloc (.cells cs T)) :=
  h.block ((Below.refl _ wx).alloc (Nat.le_refl _) _) (Nat.le_refl _) (by simp) (heap_alloc_new wx _)
theorem BM.newMap {κ : Type} (mk : κ → Value) (h : BM (Rep.flat n enc hn) e w l v P wx) : BM (Rep.flat n enc hn) e w l v ((wx.heap.size, mapP mk ([] : List (κ × Value))) :: P) (wx.alloc (.map #[] 0)) :=
  h.block ((Below.refl _ wx).alloc (Nat.le_refl _) _) (Nat.le_refl _) (by simp) ⟨#[], 0, heap_alloc_new wx _, rfl⟩
/-- The list has grown. -/
theorem BM.more {g : Nat} (h : BM (Rep.flat n enc hn) e w l v P wx) (hown : Own (Rep.flat n enc hn) wy w.heap.size w.heap.size e l' v') (hg : wx.grownBy wy v.ownBlock) (hv : v'.ownBlock = some g) (hat : v.ownBlock = some g ∨ g = wx.heap.size) : BM (Rep.flat n enc hn) e w l' v' P wy := by
  refine ⟨h.bel.grown hg h.size (fun k hk => (h.own.block k hk).1), hown, fun p hp => ?_⟩
  obtain ⟨k1, k2, k3, k4⟩ := h.prv p hp
  refine ⟨by rw [hg.block p.1 k3 (fun e => k4 e.symm)]; exact k1, k2, Nat.lt_of_lt_of_le k3 hg.size, ?_⟩
  rw [hv]
  intro e
  injection e with e
  rcases hat with hat | hat
  · exact k4 (by rw [hat, e])
  · omega
/-- A cell of the list has been set. -/
theorem BM.modify {g m cap : Nat} (h : BM (Rep.flat n enc hn) e w l (.slice (some ⟨g, 0, none⟩) m cap) P wx) (f : α → α) (k j : Nat) (u : Value) (hf : ∀ x, enc (f x) = (enc x).set j u) (hj : j < n) (hk : k < l.length) :
    BM (Rep.flat n enc hn) e w (l.modify k f) (.slice (some ⟨g, 0, none⟩) m cap) P (wx.setCell ⟨g, k * n + j, none⟩ u) := by
  have hg := h.own.block g rfl
  refine ⟨belSet h.bel hg.1 u, h.own.modify f k j u hf hj hk, fun p hp => ?_⟩
  obtain ⟨h1, h2, h3, h4⟩ := h.prv p hp
  exact ⟨by rw [Below.heap_setCell wx ⟨g, k * n + j, none⟩ u p.1 (fun e => h4 (by rw [e]; rfl))]; exact h1, h2, by simpa [World.setCell] using h3, h4⟩
/-- What a store into a private block does: to a map, or to cells. -/
theorem BM.poke {b : Nat} {f g : Option Obj → Prop} (h : BM (Rep.flat n enc hn) e w l v ((b, f) :: P) wx) (hd : ∀ p ∈ P, p.1 ≠ b) (hm : g wy.heap[b]?) (hg : wx.grownBy wy (some b)) : BM (Rep.flat n enc hn) e w l v ((b, g) :: P) wy := by
  obtain ⟨h1, h2, h3, h4⟩ := h.prv (b, f) (by simp)
  dsimp only at h1 h2 h3 h4
  refine ⟨h.bel.grown hg h.size (fun k hk => by injection hk with hk; omega), h.own.keepF (fun q hq => hg.block q (h.own.block q hq).2 (fun e => h4 (by rw [hq]; exact e))) hg.size, fun p hp => ?_⟩
  rcases List.mem_cons.1 hp with rfl | hp
  · exact ⟨hm, h2, Nat.lt_of_lt_of_le h3 hg.size, h4⟩
  · obtain ⟨k1, k2, k3, k4⟩ := h.prv p (by simp [hp])
    exact ⟨by rw [hg.block p.1 k3 (fun e => by injection e with e; exact hd p hp e)]; exact k1, k2, Nat.lt_of_lt_of_le k3 hg.size, k4⟩
theorem BM.put {b : Nat} {m m' : List (ByteArray × Value)} (h : BM (Rep.flat n enc hn) e w l v ((b, mapP Value.string m) :: P) wx) (hd : ∀ p ∈ P, p.1 ≠ b) (hm : MapL wy b Value.string m') (hg : wx.grownBy wy (some b)) : BM (Rep.flat n enc hn) e w l v ((b, mapP Value.string m') :: P) wy := h.poke hd hm hg
theorem BM.cell (h : BM (Rep.flat n enc hn) e w l v P wx) {b : Nat} {cs : Array Value} {T : TypeId} (hp : (b, cellsP cs T) ∈ P) : (∀ i, wx.cell? ⟨b, i, none⟩ = cs[i]?) ∧ (∀ i, wx.frozen? ⟨b, i, none⟩ = false) := str_cells (h.prv _ hp).1
theorem BM.map {b : Nat} {κ : Type} {mk : κ → Value} {m : List (κ × Value)} (h : BM (Rep.flat n enc hn) e w l v P wx) (hp : (b, mapP mk m) ∈ P) : MapL wx b mk m := (h.prv _ hp).1
theorem BM.plt (h : BM (Rep.flat n enc hn) e w l v P wx) {b : Nat} {f : Option Obj → Prop} (hp : (b, f) ∈ P) : w.heap.size ≤ b ∧ b < wx.heap.size := ⟨(h.prv _ hp).2.1, (h.prv _ hp).2.2.1⟩
theorem BM.set0 {b : Nat} {cs : Array Value} {T : TypeId} (h : BM (Rep.flat n enc hn) e w l v ((b, cellsP cs T) :: P) wx) (i : Nat) (u : Value) (hd : ∀ p ∈ P, p.1 ≠ b) : BM (Rep.flat n enc hn) e w l v ((b, cellsP (cs.setIfInBounds i u) T) :: P) (wx.setCell ⟨b, i, none⟩ u) := by
  have a1 : wx.heap[b]? = some (.cells cs T (0, 0)) := (h.prv (b, cellsP cs T) (by simp)).1
  refine h.poke hd ?_ ⟨rfl, rfl, rfl, by simp [World.setCell], fun i' _ hne => Below.heap_setCell wx _ u i' (fun e => hne (by rw [e]))⟩
  show _ = _
  simp [World.setCell, Array.getElem?_modify, a1]
end
end Go.Proofs.YtkhegeobdcemkaaGreatDoor

/- Append of one element onto a row of one's own: what the old row holds stays, wherever the new one lies. No program in sight. -/
namespace Go.Proofs.YtkhegeobdcemkaaGreatDoor
set_option linter.unusedVariables false
open Go.RowKit

theorem came_own {w : World} {base : Nat} {e : TypeId} {size : Nat} {g n cap : Nat} {xs : List Value} (h : w.ownsRow base e size (.slice (some ⟨g, 0, none⟩) n cap) n xs) : Came w size (some ⟨g, 0, none⟩) g 0 n cap xs := by
  rcases h.2 with ⟨hv, _⟩ | ⟨g', cap', cur, hv, hb, hg, h1, h2, h3, h4⟩
  · cases hv
  · injection hv with hv1 hv2 hv3
    injection hv1 with hv1
    injection hv1 with hv1
    subst hv1; subst hv3
    obtain ⟨h5, h6⟩ := str_cells hg
    refine ⟨h1, fun _ => rfl, fun _ => heap_lt hg, h.1, fun j u hj => ?_, fun j hj => ⟨?_, h6 _⟩⟩
    · rw [h5, Nat.zero_add, ← Array.getElem?_toList]
      have hlt : j < n * size := by rw [← h.1]; exact (List.getElem?_eq_some_iff.1 hj).1
      rw [← h4, List.getElem?_take, if_pos hlt] at hj
      exact hj
    · rw [h5, Nat.zero_add]
      have : n * size + j < cur.size := by
        rw [h3]
        rw [Nat.sub_mul] at hj
        omega
      simp [this]
theorem run_push_keeps {P : Program} {W : World} {base : Nat} {e : TypeId} {size : Nat} {g0 n cap0 : Nat} {xs : List Value} (hown : W.ownsRow base e size (.slice (some ⟨g0, 0, none⟩) n cap0) n xs)
    (t ty : TypeId) (i : TypeInfo) (z : Value) (bytes : Nat) (ht : P.underlying t = some (.slice e)) (hi : P.info? e = some i) (hz : i.zero = some z) (hsize : i.size = size) (hby : i.bytes = bytes) (hzs : z.cells.size = size) (hsz : 0 < size)
    (ad : Addr) (c : Nat) (news : List Value) (hl : news.length = 1 * size) (hnews : ∀ j u, news[j]? = some u → W.cell? (ad.add j) = some u) (h1 : ∀ u ∈ news, u.oneCell' = true)
    (h63 : n + 1 ≤ maxLen) (hbytes : (n + 1) * bytes ≤ 140737488355328) (hbase : base ≤ W.heap.size) :
    ∃ g cap w', (Builtin.append_ #[t, t] ty #[.slice (some ⟨g0, 0, none⟩) n cap0, .slice (some ad) 1 c]).run P W = .ok (.slice (some ⟨g, 0, none⟩) (n + 1) cap) w' ∧
      w'.ownsRow base e size (.slice (some ⟨g, 0, none⟩) (n + 1) cap) (n + 1) (xs ++ news) ∧ W.grownBy w' (some g0) ∧ (some g0 = some g ∨ g = W.heap.size) ∧ g < w'.heap.size ∧ (∀ j, j < n * size → w'.cell? ⟨g0, j, none⟩ = W.cell? ⟨g0, j, none⟩) := by
  obtain ⟨g, cap, w', hr, h2, h3, h4, h5⟩ := run_append_lies (P := P) W t ty base e i z size bytes ht hi hz hsize hby hzs hsz _ n xs hown ad 1 c news hl hnews h1 (by omega) h63 hbytes hbase W.heap.size rfl
  have hc := came_own hown
  obtain ⟨v2, w2, hr2, ho⟩ := run_append_onto (P := P) hc t ty i z bytes ht hi hz hsize hby hzs hsz (Onto.start hc) ad c news hl hnews h1 h63 hbytes
  have hg0 : g0 < W.heap.size := by
    rcases hown.2 with ⟨hv, _⟩ | ⟨g', cap', cur, hv, hb, hg, _⟩
    · cases hv
    · injection hv with hv1 hv2 hv3
      injection hv1 with hv1
      injection hv1 with hv1
      subst hv1
      exact heap_lt hg
  refine ⟨g, cap, w', hr, h2, h3, h4, h5, fun j hj => ?_⟩
  have e := hr.symm.trans hr2
  injection e with e1 e2
  subst e2
  exact ho.old hg0 (fun j' _ _ ⟨_, e⟩ => by omega)
/-- 'append(out, y)' at the operation, the old row's cells told. -/
theorem wpList_pushK {P : Program} {α : Type} {R : Rep α} {ops : Array Oper} {rest : List Oper} {o : Oper} {a : Act} {Q : Exit → Act → World → Prop} (hgd : o.guard = none) (s x : Operand) (t : TypeId)
    (ho : o.op = .call { callee := .builtin .append, args := #[s, x], argTypes := #[t, t] })
    (base lo : Nat) (e : TypeId) (i : TypeInfo) (z : Value) (bytes : Nat) (ht : P.underlying t = some (.slice e)) (hi : P.info? e = some i) (hz : i.zero = some z)
    (hsize : i.size = R.n) (hby : i.bytes = bytes) (hzs : z.cells.size = R.n) (hsz : 0 < R.n)
    (W : World) (g0 cap0 n : Nat) (l : List α) (hln : l.length = n) (hs : a.eval s = .slice (some ⟨g0, 0, none⟩) n cap0) (hown : Own R W base lo e l (.slice (some ⟨g0, 0, none⟩) n cap0)) (y : α) (cs : List Value) (hy : R.rel W (From W lo (some g0)) y cs) (h1 : ∀ u ∈ cs, u.oneCell' = true)
    (B : Nat) (T : TypeId) (c : Nat) (hB : W.heap[B]? = some (.cells cs.toArray T (0, 0))) (hx : a.eval x = .slice (some ⟨B, 0, none⟩) 1 c) (h63 : n + 1 ≤ maxLen) (hbytes : (n + 1) * bytes ≤ 140737488355328) (hbase : base ≤ W.heap.size)
    (h : ∀ g cap w', Own R w' base lo e (l ++ [y]) (.slice (some ⟨g, 0, none⟩) (n + 1) cap) → W.grownBy w' (some g0) → (some g0 = some g ∨ g = W.heap.size) → g < w'.heap.size → (∀ j, j < n * R.n → w'.cell? ⟨g0, j, none⟩ = W.cell? ⟨g0, j, none⟩) → wpList P ops Q rest (a.put o.dst (.slice (some ⟨g, 0, none⟩) (n + 1) cap)) w') :
    wpList P ops Q (o :: rest) a W := by
  subst hln
  obtain ⟨xs, hor, hl⟩ := hown
  have hn := R.len hy
  obtain ⟨g, cap, w', hr, h2, h3, h4, h5, h6⟩ := run_push_keeps (P := P) hor t o.type i z bytes ht hi hz hsize hby hzs hsz ⟨B, 0, none⟩ c cs (by rw [hn, Nat.one_mul]) (fun j u hj => World.news_of_block hB j u (by simpa using hj)) h1 h63 hbytes hbase
  refine wpList_plain hgd fun K hK => ?_
  unfold Oper.wp execOp
  simp only [ho, resolve, invoke, builtin, Sem.run_bind, Sem.run_pure, Result.andThen_ok, List.map_toArray, List.map_cons, List.map_nil, hs, hx, hr]
  exact hK _ _ (h g cap w' (Own.push (v := .slice (some ⟨g0, 0, none⟩) l.length cap0) (row := xs) (g := g) (H := W.heap.size) hl hy h2 h3 rfl (h4.imp id fun h => ⟨h, Nat.le_refl _⟩)) h3 h4 h5 h6)
/-- A list of one string, in the block that a literal has made. -/
theorem Own.lit1 (w : World) (e : TypeId) (x : ByteArray) : Own strR (w.alloc (.cells #[.string x] e)) w.heap.size w.heap.size e [x] (.slice (some ⟨w.heap.size, 0, none⟩) 1 1) :=
  ⟨[.string x], ⟨rfl, .inr ⟨w.heap.size, 1, #[.string x], rfl, Nat.le_refl _, heap_alloc_new w _, Nat.le_refl _, by decide, rfl, rfl⟩⟩, rfl, fun k y hk => by
    cases k with
    | zero => simp at hk; subst hk; rfl
    | succ k => simp at hk⟩
end Go.Proofs.YtkhegeobdcemkaaGreatDoor

/- Append of one element, at the operation itself: for regions that draw their order. No program in sight. -/
namespace Go.Proofs.YtkhegeobdcemkaaGreatDoor
set_option linter.unusedVariables false
open Go.RowKit

theorem oper_push {P : Program} {α : Type} {R : Rep α} {o : Oper} {a : Act} {K : Act → World → Prop} {Q : Exit → Act → World → Prop} (hgd : o.guard = none) (s x : Operand) (t : TypeId)
    (ho : o.op = .call { callee := .builtin .append, args := #[s, x], argTypes := #[t, t] })
    (base lo : Nat) (e : TypeId) (i : TypeInfo) (z : Value) (bytes : Nat) (ht : P.underlying t = some (.slice e)) (hi : P.info? e = some i) (hz : i.zero = some z)
    (hsize : i.size = R.n) (hby : i.bytes = bytes) (hzs : z.cells.size = R.n) (hsz : 0 < R.n)
    (W : World) (v : Value) (l : List α) (hs : a.eval s = v) (hown : Own R W base lo e l v) (y : α) (cs : List Value) (hy : R.rel W (From W lo v.ownBlock) y cs) (h1 : ∀ u ∈ cs, u.oneCell' = true)
    (B : Nat) (T : TypeId) (c : Nat) (hB : W.heap[B]? = some (.cells cs.toArray T (0, 0))) (hx : a.eval x = .slice (some ⟨B, 0, none⟩) 1 c) (h63 : l.length + 1 ≤ maxLen) (hbytes : (l.length + 1) * bytes ≤ 140737488355328) (hbase : base ≤ W.heap.size)
    (h : ∀ g cap w', Own R w' base lo e (l ++ [y]) (.slice (some ⟨g, 0, none⟩) (l.length + 1) cap) → W.grownBy w' v.ownBlock → (v.ownBlock = some g ∨ g = W.heap.size) → g < w'.heap.size → K (a.put o.dst (.slice (some ⟨g, 0, none⟩) (l.length + 1) cap)) w') :
    Oper.wp P o a W K Q := by
  have h2 := step_push (ops := #[]) (K := K) (Q := Q) (E := False) hgd s x t ho base lo e i z bytes ht hi hz hsize hby hzs hsz W v l hs hown y cs hy h1 B T c hB hx h63 hbytes hbase h
  rw [if_pos (by simp [Region.wanted, hgd])] at h2
  exact h2
/-- The same, the old row's cells told. -/
theorem oper_pushK {P : Program} {α : Type} {R : Rep α} {o : Oper} {a : Act} {K : Act → World → Prop} {Q : Exit → Act → World → Prop} (hgd : o.guard = none) (s x : Operand) (t : TypeId)
    (ho : o.op = .call { callee := .builtin .append, args := #[s, x], argTypes := #[t, t] })
    (base lo : Nat) (e : TypeId) (i : TypeInfo) (z : Value) (bytes : Nat) (ht : P.underlying t = some (.slice e)) (hi : P.info? e = some i) (hz : i.zero = some z)
    (hsize : i.size = R.n) (hby : i.bytes = bytes) (hzs : z.cells.size = R.n) (hsz : 0 < R.n)
    (W : World) (g0 cap0 n : Nat) (l : List α) (hln : l.length = n) (hs : a.eval s = .slice (some ⟨g0, 0, none⟩) n cap0) (hown : Own R W base lo e l (.slice (some ⟨g0, 0, none⟩) n cap0)) (y : α) (cs : List Value) (hy : R.rel W (From W lo (some g0)) y cs) (h1 : ∀ u ∈ cs, u.oneCell' = true)
    (B : Nat) (T : TypeId) (c : Nat) (hB : W.heap[B]? = some (.cells cs.toArray T (0, 0))) (hx : a.eval x = .slice (some ⟨B, 0, none⟩) 1 c) (h63 : n + 1 ≤ maxLen) (hbytes : (n + 1) * bytes ≤ 140737488355328) (hbase : base ≤ W.heap.size)
    (h : ∀ g cap w', Own R w' base lo e (l ++ [y]) (.slice (some ⟨g, 0, none⟩) (n + 1) cap) → W.grownBy w' (some g0) → (some g0 = some g ∨ g = W.heap.size) → g < w'.heap.size → (∀ j, j < n * R.n → w'.cell? ⟨g0, j, none⟩ = W.cell? ⟨g0, j, none⟩) → K (a.put o.dst (.slice (some ⟨g, 0, none⟩) (n + 1) cap)) w') :
    Oper.wp P o a W K Q := by
  subst hln
  obtain ⟨xs, hor, hl⟩ := hown
  have hn := R.len hy
  obtain ⟨g, cap, w', hr, h2, h3, h4, h5, h6⟩ := run_push_keeps (P := P) hor t o.type i z bytes ht hi hz hsize hby hzs hsz ⟨B, 0, none⟩ c cs (by rw [hn, Nat.one_mul]) (fun j u hj => World.news_of_block hB j u (by simpa using hj)) h1 h63 hbytes hbase
  unfold Oper.wp execOp
  simp only [ho, resolve, invoke, builtin, Sem.run_bind, Sem.run_pure, Result.andThen_ok, List.map_toArray, List.map_cons, List.map_nil, hs, hx, hr]
  exact h g cap w' (Own.push (v := .slice (some ⟨g0, 0, none⟩) l.length cap0) (row := xs) (g := g) (H := W.heap.size) hl hy h2 h3 rfl (h4.imp id fun h => ⟨h, Nat.le_refl _⟩)) h3 h4 h5 h6
end Go.Proofs.YtkhegeobdcemkaaGreatDoor

/- Append of several texts at once onto a list of one's own. No program in sight. -/
namespace Go.Proofs.YtkhegeobdcemkaaGreatDoor
set_option linter.unusedVariables false
open Go.RowKit

theorem lay_strs {w : World} {F : Nat → Prop} : ∀ (zs l : List ByteArray) (xs : List Value), Lay strR w F l xs → Lay strR w F (l ++ zs) (xs ++ zs.map (Value.string)) := by
  intro zs
  induction zs with
  | nil => intro l xs h; simpa using h
  | cons z r ih =>
    intro l xs h
    have h2 := ih (l ++ [z]) (xs ++ [.string z]) (h.snoc (show strR.rel w F z [.string z] from rfl))
    simpa using h2
/-- 'append(out, a, b, ..)' at the operation: the texts lie in a block of their own. -/
theorem wpList_pushS {P : Program} {ops : Array Oper} {rest : List Oper} {o : Oper} {a : Act} {Q : Exit → Act → World → Prop} (hgd : o.guard = none) (s x : Operand) (t : TypeId)
    (ho : o.op = .call { callee := .builtin .append, args := #[s, x], argTypes := #[t, t] })
    (base lo : Nat) (e : TypeId) (i : TypeInfo) (z : Value) (bytes : Nat) (ht : P.underlying t = some (.slice e)) (hi : P.info? e = some i) (hz : i.zero = some z)
    (hsize : i.size = 1) (hby : i.bytes = bytes) (hzs : z.cells.size = 1)
    (W : World) (v : Value) (l : List ByteArray) (hs : a.eval s = v) (hown : Own strR W base lo e l v) (zs : List ByteArray) (h0 : 0 < zs.length)
    (B : Nat) (T : TypeId) (c : Nat) (hB : W.heap[B]? = some (.cells (zs.map (Value.string)).toArray T (0, 0))) (hx : a.eval x = .slice (some ⟨B, 0, none⟩) zs.length c) (h63 : l.length + zs.length ≤ maxLen) (hbytes : (l.length + zs.length) * bytes ≤ 140737488355328) (hbase : base ≤ W.heap.size)
    (h : ∀ g cap w', Own strR w' base lo e (l ++ zs) (.slice (some ⟨g, 0, none⟩) (l.length + zs.length) cap) → W.grownBy w' v.ownBlock → (v.ownBlock = some g ∨ g = W.heap.size) → g < w'.heap.size → wpList P ops Q rest (a.put o.dst (.slice (some ⟨g, 0, none⟩) (l.length + zs.length) cap)) w') :
    wpList P ops Q (o :: rest) a W := by
  obtain ⟨xs, hor, hl⟩ := hown
  have hor1 : W.ownsRow base e 1 v l.length xs := hor
  refine wpList_append_lies W hgd s x t ho base e i z 1 bytes ht hi hz hsize hby hzs (by omega) v l.length xs hs hor1 ⟨B, 0, none⟩ zs.length c (zs.map (Value.string)) hx (by simp) ?_ (fun u hu => ?_) h0 h63 hbytes hbase W.heap.size rfl ?_
  · intro j u hj
    exact World.news_of_block hB j u (by simpa using hj)
  · obtain ⟨y, _, rfl⟩ := List.mem_map.1 hu
    rfl
  · intro g cap w' h2 h3 h4 h5
    refine h g cap w' ⟨xs ++ zs.map (Value.string), by rw [List.length_append]; exact h2, ?_⟩ h3 h4 h5
    have hF : ∀ b, From W lo v.ownBlock b → From w' lo (some g) b := fun b hb => ⟨hb.1, Nat.lt_of_lt_of_le hb.2.1 h3.size, by
      rcases h4 with h | h
      · rw [← h]; exact hb.2.2
      · intro e; injection e with e; have := hb.2.1; omega⟩
    have hk : ∀ b, From W lo v.ownBlock b → w'.heap[b]? = W.heap[b]? := fun b hb => h3.block b hb.2.1 hb.2.2
    exact ((lay_strs zs l xs hl).keep hk).more hF
/-- One text, two texts. -/
theorem wpList_pushS1 {P : Program} {ops : Array Oper} {rest : List Oper} {o : Oper} {a : Act} {Q : Exit → Act → World → Prop} (hgd : o.guard = none) (s x : Operand) (t : TypeId)
    (ho : o.op = .call { callee := .builtin .append, args := #[s, x], argTypes := #[t, t] })
    (base lo : Nat) (e : TypeId) (i : TypeInfo) (z : Value) (ht : P.underlying t = some (.slice e)) (hi : P.info? e = some i) (hz : i.zero = some z)
    (hsize : i.size = 1) (hby : i.bytes = 16) (hzs : z.cells.size = 1)
    (W : World) (v : Value) (l : List ByteArray) (m : Nat) (hm : l.length = m) (hs : a.eval s = v) (hown : Own strR W base lo e l v) (y : ByteArray)
    (B : Nat) (T : TypeId) (c : Nat) (hB : W.heap[B]? = some (.cells #[.string y] T (0, 0))) (hx : a.eval x = .slice (some ⟨B, 0, none⟩) 1 c) (hlen : m ≤ 1000000000) (hbase : base ≤ W.heap.size)
    (h : ∀ g cap w', Own strR w' base lo e (l ++ [y]) (.slice (some ⟨g, 0, none⟩) (m + 1) cap) → W.grownBy w' v.ownBlock → (v.ownBlock = some g ∨ g = W.heap.size) → g < w'.heap.size → wpList P ops Q rest (a.put o.dst (.slice (some ⟨g, 0, none⟩) (m + 1) cap)) w') :
    wpList P ops Q (o :: rest) a W := by
  subst hm
  exact wpList_pushS hgd s x t ho base lo e i z 16 ht hi hz hsize hby hzs W v l hs hown [y] (Nat.succ_pos _) B T c hB hx (by simp [maxLen]; omega) (by simp; omega) hbase h
theorem wpList_pushS2 {P : Program} {ops : Array Oper} {rest : List Oper} {o : Oper} {a : Act} {Q : Exit → Act → World → Prop} (hgd : o.guard = none) (s x : Operand) (t : TypeId)
    (ho : o.op = .call { callee := .builtin .append, args := #[s, x], argTypes := #[t, t] })
    (base lo : Nat) (e : TypeId) (i : TypeInfo) (z : Value) (ht : P.underlying t = some (.slice e)) (hi : P.info? e = some i) (hz : i.zero = some z)
    (hsize : i.size = 1) (hby : i.bytes = 16) (hzs : z.cells.size = 1)
    (W : World) (v : Value) (l : List ByteArray) (m : Nat) (hm : l.length = m) (hs : a.eval s = v) (hown : Own strR W base lo e l v) (y u : ByteArray)
    (B : Nat) (T : TypeId) (c : Nat) (hB : W.heap[B]? = some (.cells #[.string y, .string u] T (0, 0))) (hx : a.eval x = .slice (some ⟨B, 0, none⟩) 2 c) (hlen : m ≤ 1000000000) (hbase : base ≤ W.heap.size)
    (h : ∀ g cap w', Own strR w' base lo e (l ++ [y, u]) (.slice (some ⟨g, 0, none⟩) (m + 2) cap) → W.grownBy w' v.ownBlock → (v.ownBlock = some g ∨ g = W.heap.size) → g < w'.heap.size → wpList P ops Q rest (a.put o.dst (.slice (some ⟨g, 0, none⟩) (m + 2) cap)) w') :
    wpList P ops Q (o :: rest) a W := by
  subst hm
  exact wpList_pushS hgd s x t ho base lo e i z 16 ht hi hz hsize hby hzs W v l hs hown [y, u] (Nat.succ_pos _) B T c hB hx (by simp [maxLen]; omega) (by simp; omega) hbase h
/-- One text, at the operation itself: for regions that draw their order. -/
theorem oper_pushS1 {P : Program} {o : Oper} {a : Act} {K : Act → World → Prop} {Q : Exit → Act → World → Prop} (hgd : o.guard = none) (s x : Operand) (t : TypeId)
    (ho : o.op = .call { callee := .builtin .append, args := #[s, x], argTypes := #[t, t] })
    (base lo : Nat) (e : TypeId) (i : TypeInfo) (z : Value) (ht : P.underlying t = some (.slice e)) (hi : P.info? e = some i) (hz : i.zero = some z)
    (hsize : i.size = 1) (hby : i.bytes = 16) (hzs : z.cells.size = 1)
    (W : World) (v : Value) (l : List ByteArray) (m : Nat) (hm : l.length = m) (hs : a.eval s = v) (hown : Own strR W base lo e l v) (y : ByteArray)
    (B : Nat) (T : TypeId) (c : Nat) (hB : W.heap[B]? = some (.cells #[.string y] T (0, 0))) (hx : a.eval x = .slice (some ⟨B, 0, none⟩) 1 c) (hlen : m ≤ 1000000000) (hbase : base ≤ W.heap.size)
    (h : ∀ g cap w', Own strR w' base lo e (l ++ [y]) (.slice (some ⟨g, 0, none⟩) (m + 1) cap) → W.grownBy w' v.ownBlock → (v.ownBlock = some g ∨ g = W.heap.size) → g < w'.heap.size → K (a.put o.dst (.slice (some ⟨g, 0, none⟩) (m + 1) cap)) w') :
    Oper.wp P o a W K Q := by
  subst hm
  exact oper_push (R := strR) hgd s x t ho base lo e i z 16 ht hi hz hsize hby hzs (by decide) W v l hs hown y [.string y] rfl (oneC rfl) B T c hB hx (by simp [maxLen]; omega) (by omega) hbase h
end Go.Proofs.YtkhegeobdcemkaaGreatDoor

/- The program's functions on rolls and rates. -/
namespace Go.Proofs.YtkhegeobdcemkaaGreatDoor
set_option linter.unusedVariables false
open Go.RowKit

end Go.Proofs.YtkhegeobdcemkaaGreatDoor

/- The program's functions on rolls, looked up and checked. -/
namespace Go.Proofs.YtkhegeobdcemkaaGreatDoor
set_option linter.unusedVariables false
open Go.RowKit

/-- A variable's own cell keeps what it holds. -/
theorem cellC {w W : World} {b : Nat} {v : Value} (h : w.cell? ⟨b, 0, none⟩ = some v) (hb : Below w.heap.size w W) (hlt : b < w.heap.size) : W.cell? ⟨b, 0, none⟩ = some v := (hb.cell (p := ⟨b, 0, none⟩) hlt).trans h

end Go.Proofs.YtkhegeobdcemkaaGreatDoor

/- Scripts as they lie in memory. No program in sight. -/
namespace Go.Proofs.YtkhegeobdcemkaaGreatDoor
set_option linter.unusedVariables false
open Go.RowKit

structure Para where
  kind : Int
  text : ByteArray
structure Scene where
  no : ByteArray
  place : Int
  set : ByteArray
  time : Int
  paras : List Para
structure Script where
  title : ByteArray
  scenes : List Scene

def Para.cells (p : Para) : List Value := [.int .i64 p.kind, .string p.text]
def paraR : Rep Para := Rep.flat 2 Para.cells (fun _ => rfl)
def Scene.cells (s : Scene) (v : Value) : List Value := [.string s.no, .int .i64 s.place, .string s.set, .int .i64 s.time, v]
def sceneR : Rep Scene :=
  ⟨5, fun w F s cs => ∃ v, cs = s.cells v ∧ Sli paraR w F s.paras v, fun h => by obtain ⟨v, rfl, _⟩ := h; rfl, fun h hk => by obtain ⟨v, e, h⟩ := h; exact ⟨v, e, h.keep hk⟩, fun h hk => by obtain ⟨v, e, h⟩ := h; exact ⟨v, e, h.more hk⟩⟩
/-- The cells of element k of a slice of scenes. -/
theorem scene_at {w : World} {F : Nat → Prop} {l : List Scene} {A : Option Addr} {n c : Nat} (h : Sli sceneR w F l (.slice A n c)) (k : Nat) (hk : k < l.length) :
    ∃ b off v, A = some ⟨b, off, none⟩ ∧ F b ∧ Sli paraR w F l[k].paras v ∧ w.cell? ⟨b, off + k * 5, none⟩ = some (.string l[k].no) ∧ w.cell? ⟨b, off + k * 5 + 1, none⟩ = some (.int .i64 l[k].place) ∧ w.cell? ⟨b, off + k * 5 + 2, none⟩ = some (.string l[k].set)
      ∧ w.cell? ⟨b, off + k * 5 + 3, none⟩ = some (.int .i64 l[k].time) ∧ w.cell? ⟨b, off + k * 5 + 4, none⟩ = some v := by
  obtain ⟨b, off, a, ea, hb, ⟨v, e, hv⟩, hc⟩ := h.at_ k hk
  subst e
  exact ⟨b, off, v, ea, hb, hv, hc 0 _ rfl, hc 1 _ rfl, hc 2 _ rfl, hc 3 _ rfl, hc 4 _ rfl⟩
theorem para_at {w : World} {F : Nat → Prop} {l : List Para} {A : Option Addr} {n c : Nat} (h : Sli paraR w F l (.slice A n c)) (k : Nat) (hk : k < l.length) :
    ∃ b off, A = some ⟨b, off, none⟩ ∧ F b ∧ w.cell? ⟨b, off + k * 2, none⟩ = some (.int .i64 l[k].kind) ∧ w.cell? ⟨b, off + k * 2 + 1, none⟩ = some (.string l[k].text) := by
  obtain ⟨b, off, a, ea, hb, e, hc⟩ := h.at_ k hk
  have e' : a = Para.cells l[k] := e
  subst e'
  exact ⟨b, off, ea, hb, hc 0 _ rfl, hc 1 _ rfl⟩
theorem str_at {w : World} {F : Nat → Prop} {l : List ByteArray} {A : Option Addr} {n c : Nat} (h : Sli strR w F l (.slice A n c)) (k : Nat) (hk : k < l.length) :
    ∃ b off, A = some ⟨b, off, none⟩ ∧ F b ∧ w.cell? ⟨b, off + k, none⟩ = some (.string l[k]) := by
  obtain ⟨b, off, a, ea, hb, e, hc⟩ := h.at_ k hk
  have e' : a = [.string l[k]] := e
  subst e'
  have := hc 0 _ rfl
  exact ⟨b, off, ea, hb, by simpa [strR, Rep.flat] using this⟩

/-- What a made script stays within. -/
def paraBd (p : Para) : Prop := -10 ≤ p.kind ∧ p.kind ≤ 20 ∧ p.text.size ≤ 10000
def sceneBd (s : Scene) : Prop := s.no.size ≤ 1000 ∧ -10 ≤ s.place ∧ s.place ≤ 20 ∧ s.set.size ≤ 1000 ∧ -10 ≤ s.time ∧ s.time ≤ 20 ∧ s.paras.length ≤ 60 ∧ ∀ p ∈ s.paras, paraBd p
def scriptBd (x : Script) : Prop := x.title.size ≤ 1000 ∧ x.scenes.length ≤ 90 ∧ ∀ s ∈ x.scenes, sceneBd s
end Go.Proofs.YtkhegeobdcemkaaGreatDoor

/- slices.Delete of one paragraph, in a row of one's own. -/
namespace Go.Proofs.YtkhegeobdcemkaaGreatDoor
set_option linter.unusedVariables false
open Go.RowKit

theorem grown_setCell (w : World) (b o : Nat) (v : Value) : w.grownBy (w.setCell ⟨b, o, none⟩ v) (some b) :=
  ⟨rfl, rfl, rfl, by simp [World.setCell], fun i _ hne => Below.heap_setCell w ⟨b, o, none⟩ v i (fun e => hne (by rw [e]))⟩
theorem grown_setCells (b : Nat) : ∀ (vs : List Value) (o : Nat) (w : World), w.grownBy (w.setCells b o vs) (some b)
  | [], o, w => ⟨rfl, rfl, rfl, Nat.le_refl _, fun _ _ _ => rfl⟩
  | v :: vs, o, w => gbTrans (grown_setCell w b o v) (grown_setCells b vs (o + 1) _)
/-- A row whose cells are known reads as a list. -/
theorem Sli.mkF {α : Type} {n : Nat} {enc : α → List Value} {hn : ∀ x, (enc x).length = n} {w : World} {F : Nat → Prop} {l : List α} {g c : Nat} (hF : F g) (hc : l.length ≤ c) (hc2 : c ≤ 9223372036854775807)
    (h : ∀ (k : Nat) x, l[k]? = some x → ∀ j u, (enc x)[j]? = some u → w.cell? ⟨g, k * n + j, none⟩ = some u) : Sli (Rep.flat n enc hn) w F l (.slice (some ⟨g, 0, none⟩) l.length c) := by
  have hlay : ∀ l : List α, (l.flatMap enc).length = l.length * n := fun l => by
    induction l with
    | nil => simp
    | cons a r ih => rw [List.flatMap_cons, List.length_append, hn, ih, List.length_cons, Nat.add_mul]; omega
  have hget : ∀ (l : List α) (k : Nat) x, l[k]? = some x → ((l.flatMap enc).drop (k * n)).take n = enc x := fun l => by
    induction l with
    | nil => intro k x hx; simp at hx
    | cons a r ih =>
      intro k x hx
      cases k with
      | zero =>
        simp at hx; subst hx
        rw [List.flatMap_cons, Nat.zero_mul, List.drop_zero, List.take_left' (hn a)]
      | succ k =>
        rw [List.flatMap_cons, show (k + 1) * n = n + k * n by rw [Nat.add_mul]; omega, ← List.drop_drop, List.drop_left' (hn a)]
        exact ih k x (by simpa using hx)
  refine ⟨_, c, rfl, hc, hc2, fun _ => ⟨g, 0, l.flatMap enc, rfl, hF, ⟨hlay l, fun k x hx => hget l k x hx⟩, fun j u hj => ?_⟩⟩
  rw [Nat.zero_add]
  have hjl := (List.getElem?_eq_some_iff.1 hj).1
  rw [hlay] at hjl
  by_cases h0 : n = 0
  · subst h0; omega
  · have hk : j / n < l.length := (Nat.div_lt_iff_lt_mul (by omega)).2 hjl
    have h2 := hget l (j / n) _ (List.getElem?_eq_getElem hk)
    have h3 : (enc l[j / n])[j % n]? = some u := by
      rw [← h2, List.getElem?_take, if_pos (Nat.mod_lt _ (by omega)), List.getElem?_drop, Nat.mul_comm, Nat.div_add_mod]
      exact hj
    have h4 := h (j / n) _ (List.getElem?_eq_getElem hk) _ u h3
    rw [Nat.mul_comm, Nat.div_add_mod] at h4
    exact h4
/-- 'clear' of one paragraph. -/
theorem run_clear_para (w : World) (ty : TypeId) (g o c : Nat) (h0 : (w.cell? ⟨g, o, none⟩).isSome = true) (h1 : (w.cell? ⟨g, o + 1, none⟩).isSome = true) (f0 : w.frozen? ⟨g, o, none⟩ = false) (f1 : w.frozen? ⟨g, o + 1, none⟩ = false) :
    (Builtin.clear_ #[69] ty #[.slice (some ⟨g, o, none⟩) 1 c]).run Tryz.prog w = .ok (.tuple #[]) (w.setCells g o [.int .i64 0, .string ⟨#[]⟩]) := by
  have hv : ∀ w, (zeroValue 78).run Tryz.prog w = .ok (.agg #[.int .i64 0, .string ⟨#[]⟩]) w := fun w => by kernel_rfl
  have hzc : (Builtin.zeroCells (Value.agg #[.int .i64 0, .string ⟨#[]⟩]).cells 1).toList = [.int .i64 0, .string ⟨#[]⟩] := by kernel_rfl
  have hst := run_storeCells_cells (P := Tryz.prog) g o [.int .i64 0, .string ⟨#[]⟩] 0 w (fun j hj => by
    match j, hj with
    | 0, _ => simpa using h0
    | 1, _ => simpa using h1) (fun j hj => by
    match j, hj with
    | 0, _ => simpa using f0
    | 1, _ => simpa using f1) (by intro v hv; simp at hv; rcases hv with rfl | rfl <;> rfl)
  simp only [Nat.add_zero] at hst
  simp [Builtin.clear_, run_underlying Tryz.underlying69, hv, hzc, hst]
def DelP (g i d cap : Nat) (l : List Para) (w : World) (e : Ending) (w' : World) : Prop := e = .returned (.slice (some ⟨g, 0, none⟩) (i + d) cap) ∧ Sli paraR w' (fun q => q = g) l (.slice (some ⟨g, 0, none⟩) (i + d) cap) ∧ w.grownBy w' (some g)
set_option maxRecDepth 100000 in
set_option maxHeartbeats 4000000 in
theorem delPara_c (g i d cap base lo : Nat) (l1 l2 : List Para) (x : Para) (w : World) (h : Own paraR w base lo 78 (l1 ++ x :: l2) (.slice (some ⟨g, 0, none⟩) (i + d + 1) cap)) (h1 : l1.length = i) (h2 : l2.length = d) (hl : i + d ≤ 1000000) :
    Calls Tryz.prog 98 #[.slice (some ⟨g, 0, none⟩) (i + d + 1) cap, .int .i64 i, .int .i64 (i + 1)] w (DelP g i d cap (l1 ++ l2) w) := by
  obtain ⟨i0, hi0, hz0, hz1, hz2⟩ := info_parts (show (Tryz.prog.info? 78).map (fun i => (i.zero, i.size, i.bytes)) = some (some (.agg #[.int .i64 0, .string ⟨#[]⟩]), 2, 24) by kernel_rfl)
  have hcap : i + d + 1 ≤ cap ∧ cap ≤ 9223372036854775807 := by
    rcases h.form with ⟨e, _⟩ | ⟨g', c', e, _, _, h3, h4⟩
    · cases e
    · injection e with _ e2 e3
      subst e3
      rw [← e2] at h3
      exact ⟨h3, h4⟩
  have hcell : ∀ k y, (l1 ++ x :: l2)[k]? = some y → ∀ j, j < 2 → w.cell? ⟨g, k * 2 + j, none⟩ = y.cells[j]? ∧ w.frozen? ⟨g, k * 2 + j, none⟩ = false := fun k y hy j hj => by
    obtain ⟨hk, rfl⟩ := List.getElem?_eq_some_iff.1 hy
    exact Own.cellAt (enc := Para.cells) h k hk j hj
  have HC := Lib.hid hcell
  clear hcell
  obtain ⟨news, hnews⟩ : ∃ news, news = l2.flatMap Para.cells := ⟨_, rfl⟩
  have hfl : ∀ l : List Para, (l.flatMap Para.cells).length = l.length * 2 := fun l => by
    induction l with
    | nil => simp
    | cons a r ih => rw [List.flatMap_cons, List.length_append, ih, List.length_cons, Nat.add_mul, show (Para.cells a).length = 2 from rfl]; omega
  have hfg : ∀ (l : List Para) (k : Nat) y, l[k]? = some y → ∀ j, j < 2 → (l.flatMap Para.cells)[k * 2 + j]? = y.cells[j]? := fun l => by
    induction l with
    | nil => intro k y hy; simp at hy
    | cons a r ih =>
      intro k y hy j hj
      cases k with
      | zero =>
        simp at hy; subst hy
        rw [List.flatMap_cons, Nat.zero_mul, Nat.zero_add, List.getElem?_append_left (by show j < 2; exact hj)]
      | succ k =>
        rw [List.flatMap_cons, List.getElem?_append_right (by show 2 ≤ _; omega)]
        have := ih k y (by simpa using hy) j hj
        rw [← this]
        congr 1
        show (k + 1) * 2 + j - 2 = _
        omega
  have hlen : news.length = d * 2 := by rw [hnews, hfl, h2]
  have hsrc : Hid (∀ t u, news[t]? = some u → w.drew.cell? ⟨g, (i + 1) * 2 + t, none⟩ = some u) := by
    intro t u hu
    have ht := (List.getElem?_eq_some_iff.1 hu).1
    rw [hlen] at ht
    have hk : t / 2 < l2.length := by omega
    have e := hfg l2 (t / 2) _ (List.getElem?_eq_getElem hk) (t % 2) (Nat.mod_lt _ (by decide))
    rw [show t / 2 * 2 + t % 2 = t by omega, ← hnews, hu] at e
    have hx : (l1 ++ x :: l2)[i + 1 + t / 2]? = some l2[t / 2] := by
      rw [List.getElem?_append_right (by omega), show i + 1 + t / 2 - l1.length = t / 2 + 1 by omega, List.getElem?_cons_succ, List.getElem?_eq_getElem hk]
    have hc := (HC.out _ _ hx (t % 2) (Nat.mod_lt _ (by decide))).1
    rw [show (i + 1 + t / 2) * 2 + t % 2 = (i + 1) * 2 + t by omega] at hc
    show w.cell? _ = _
    rw [hc, ← e]
  have s1 : Hid (news.length = d * 2) := hlen
  have s2 : Hid (∀ u ∈ news, u.oneCell' = true) := by
    intro u hu
    rw [hnews, List.mem_flatMap] at hu
    obtain ⟨p, _, hp⟩ := hu
    simp [Para.cells] at hp
    rcases hp with rfl | rfl <;> rfl
  have s3 : Hid (∀ t, t < d * 2 + 2 → (w.cell? ⟨g, i * 2 + t, none⟩).isSome = true ∧ w.frozen? ⟨g, i * 2 + t, none⟩ = false) := by
    intro t ht
    have hk : i + t / 2 < (l1 ++ x :: l2).length := by simp; omega
    have hc := HC.out _ _ (List.getElem?_eq_getElem hk) (t % 2) (Nat.mod_lt _ (by decide))
    rw [show (i + t / 2) * 2 + t % 2 = i * 2 + t by omega] at hc
    refine ⟨?_, hc.2⟩
    rw [hc.1, List.getElem?_eq_getElem (by show t % 2 < 2; omega)]
    rfl
  have HFG := Lib.hid (hfg l2)
  have HNW := Lib.hid hnews
  have hg : Hid (∀ (W1 : World), W1 = w.drew.setCells g (i * 2) news → DelP g i d cap (l1 ++ l2) w (.returned (.slice (some ⟨g, 0, none⟩) (i + d) cap)) (W1.setCells g ((i + d) * 2) [.int .i64 0, .string ⟨#[]⟩])) := by
    rintro W1 rfl
    refine ⟨rfl, ?_, gbTrans (gbTrans (⟨rfl, rfl, rfl, Nat.le_refl _, fun _ _ _ => rfl⟩ : w.grownBy w.drew (some g)) (grown_setCells g news (i * 2) w.drew)) (grown_setCells g _ _ _)⟩
    have hll : (l1 ++ l2).length = i + d := by rw [List.length_append, h1, h2]
    have key := Sli.mkF (n := 2) (enc := Para.cells) (hn := fun _ => rfl) (w := (w.drew.setCells g (i * 2) news).setCells g ((i + d) * 2) [.int .i64 0, .string ⟨#[]⟩]) (F := fun q => q = g) (l := l1 ++ l2) (g := g) (c := cap) rfl (by omega) hcap.2 (fun k y hy j u hj => by
      have hk := (List.getElem?_eq_some_iff.1 hy).1
      have hj2 : j < 2 := by have := (List.getElem?_eq_some_iff.1 hj).1; exact this
      rw [World.cell?_setCells_out g _ _ _ _ (fun _ _ => .inl (by dsimp only; omega))]
      by_cases hki : k < i
      · rw [World.cell?_setCells_out g _ _ _ _ (fun _ _ => .inl (by dsimp only; omega))]
        have hy2 : (l1 ++ x :: l2)[k]? = some y := by rw [← hy, List.getElem?_append_left (by omega), List.getElem?_append_left (by omega)]
        exact ((HC.out k y hy2 j hj2).1).trans hj
      · have hy2 : l2[k - i]? = some y := by rw [← hy, List.getElem?_append_right (by omega), h1]
        have e := HFG.out (k - i) y hy2 j hj2
        rw [← HNW.out, hj] at e
        have hlt := (List.getElem?_eq_some_iff.1 e).1
        have hc := World.cell?_setCells_in g news (i * 2) w.drew (fun t ht => (s3.out t (by rw [s1.out] at ht; omega)).1) ((k - i) * 2 + j) hlt
        rw [show i * 2 + ((k - i) * 2 + j) = k * 2 + j by omega] at hc
        rw [hc, ← e, List.getElem?_eq_getElem hlt])
    rw [hll] at key
    exact key
  have hcl : Hid (∀ (W1 : World), W1 = w.drew.setCells g (i * 2) news → ∀ ty c, (Builtin.clear_ #[69] ty #[.slice (some ⟨g, (i + d) * 2, none⟩) 1 c]).run Tryz.prog W1 = .ok (.tuple #[]) (W1.setCells g ((i + d) * 2) [.int .i64 0, .string ⟨#[]⟩])) := by
    rintro W1 rfl ty c
    have hin : ∀ t, t < 2 → ((w.drew.setCells g (i * 2) news).cell? ⟨g, (i + d) * 2 + t, none⟩).isSome = true ∧ (w.drew.setCells g (i * 2) news).frozen? ⟨g, (i + d) * 2 + t, none⟩ = false := fun t ht => by
      rw [World.cell?_setCells_out g _ _ _ _ (fun _ _ => .inr (by rw [s1.out]; dsimp only; omega)), World.frozen?_setCells]
      have := s3.out (d * 2 + t) (by omega)
      rw [show i * 2 + (d * 2 + t) = (i + d) * 2 + t by omega] at this
      exact this
    exact run_clear_para _ ty g _ c (hin 0 (by decide)).1 (hin 1 (by decide)).1 (hin 0 (by decide)).2 (hin 1 (by decide)).2
  have hnil : Hid (d = 0 → news = []) := fun h => List.eq_nil_of_length_eq_zero (by rw [hlen, h])
  have b1 : i ≤ cap := by omega
  have b2 : i + 1 ≤ cap := by omega
  have hp0 : (0 : Int) ≤ (i : Int) + 1 := by omega
  have hp1 : (i : Int) + 1 ≤ (i : Int) + d + 1 := by omega
  have hp2 : ((i : Int) + 1).toNat = i + 1 := by omega
  have hp4 : (0 : Int) ≤ (i : Int) + d + 1 := by omega
  have hp5 : (i : Int) + d + 1 ≤ (cap : Int) := by omega
  have hp3 : ((i : Int) == (i : Int) + 1) = false := beq_eq_false_iff_ne.2 (by omega)
  have hp6 : ¬ cap = i + d := by omega
  have hp7 : (i : Int) + d ≤ (i : Int) + d + 1 := by omega
  have hp8 : (0 : Int) ≤ (i : Int) + d := by omega
  have hp9 : ((i : Int) + d).toNat = i + d := by omega
  have hpa : ((i : Int) + d + 1).toNat = i + d + 1 := by omega
  have hidc : i + d ≤ cap := by omega
  obtain ⟨A, hA, hAS⟩ : ∃ A : Addr, (if cap = i + 1 then some (⟨g, 0, none⟩ : Addr) else some ⟨g, (i + 1) * 2, none⟩) = some A ∧ Hid (∀ t u, news[t]? = some u → w.drew.cell? (A.add t) = some u) := by
    by_cases hce : cap = i + 1
    · refine ⟨_, if_pos hce, fun t u hu => ?_⟩
      rw [hnil.out (by omega)] at hu
      simp at hu
    · refine ⟨_, if_neg hce, fun t u hu => ?_⟩
      rw [Addr.add_lit]
      exact hsrc.out t u hu
  clear hfl hfg hnews hlen h h1 h2 HFG HNW hcap hnil hsrc
  go_enter Tryz.func98, Tryz.ntmps98
  go_wp2_with fail
  go_region_law (refine step_append_room rfl (.tmp 22) (.tmp 25) 69 rfl 78 i0 2 Tryz.underlying69 hi0 hz1 g 0 i cap (by simp [Act.eval, Act.put]) A d (cap - (i + 1)) news (by simp [Act.eval, Act.put]; try omega) s1.out hAS.out s2.out (by omega) (fun t ht => by rw [Nat.zero_add]; exact s3.out t (by rw [s1.out] at ht; omega)) ?_; rw [Nat.zero_add])
  generalize hW1 : w.drew.setCells g (i * 2) news = W1
  have HW1 := Lib.hid hW1.symm
  have hcl2 := hcl.out W1 HW1.out
  clear hW1
  go_wp2
  go_ret
  exact hg.out W1 HW1.out
end Go.Proofs.YtkhegeobdcemkaaGreatDoor

/- The shelf contracts that these proofs use, laid at this translation. -/
namespace Go.Proofs
open Go.Shelf
def Tryz.lays170_ren : Go.Shelf.Ren := ⟨fun | 170 => 146 | n => n, fun | 70 => 146 | 3 => 3 | 0 => 0 | 72 => 148 | 37 => 140 | 5 => 5 | n => n, fun | n => n⟩
theorem Tryz.lays170 : Go.Proofs.Lays.n170 Tryz.prog Tryz.lays170_ren := {
  mixed := by kernel_rfl
  f170 := Tryz.func146.trans (congrArg some (by kernel_rfl))
  t0 := Tryz.underlying0
  a0 := Tryz.isAgg0
  z0 := Tryz.sizeOf0
  v0 := Tryz.zeroValue0
  t3 := Tryz.underlying3
  a3 := Tryz.isAgg3
  z3 := Tryz.sizeOf3
  v3 := Tryz.zeroValue3
  t37 := Tryz.underlying140
  a37 := Tryz.isAgg140
  z37 := Tryz.sizeOf140
  v37 := Tryz.zeroValue140
  t70 := Tryz.underlying146
  a70 := Tryz.isAgg146
  z70 := Tryz.sizeOf146
  v70 := Tryz.zeroValue146
  t72 := Tryz.underlying148
  a72 := Tryz.isAgg148
  z72 := Tryz.sizeOf148
  v72 := Tryz.zeroValue148 }
def Tryz.lays169_ren : Go.Shelf.Ren := ⟨fun | 169 => 119 | n => n, fun | 70 => 146 | 9 => 9 | 0 => 0 | 72 => 148 | 37 => 140 | 127 => 196 | 3 => 3 | 5 => 5 | n => n, fun | n => n⟩
theorem Tryz.lays169 : Go.Proofs.Lays.n169 Tryz.prog Tryz.lays169_ren := {
  mixed := by kernel_rfl
  f169 := Tryz.func119.trans (congrArg some (by kernel_rfl))
  t0 := Tryz.underlying0
  a0 := Tryz.isAgg0
  z0 := Tryz.sizeOf0
  v0 := Tryz.zeroValue0
  t3 := Tryz.underlying3
  a3 := Tryz.isAgg3
  z3 := Tryz.sizeOf3
  v3 := Tryz.zeroValue3
  t9 := Tryz.underlying9
  a9 := Tryz.isAgg9
  z9 := Tryz.sizeOf9
  v9 := Tryz.zeroValue9
  t37 := Tryz.underlying140
  a37 := Tryz.isAgg140
  z37 := Tryz.sizeOf140
  v37 := Tryz.zeroValue140
  t70 := Tryz.underlying146
  a70 := Tryz.isAgg146
  z70 := Tryz.sizeOf146
  v70 := Tryz.zeroValue146
  t72 := Tryz.underlying148
  a72 := Tryz.isAgg148
  z72 := Tryz.sizeOf148
  v72 := Tryz.zeroValue148
  t127 := Tryz.underlying196
  a127 := Tryz.isAgg196
  z127 := Tryz.sizeOf196
  v127 := Tryz.zeroValue196 }
theorem Tryz.Builder_Extra_169 : Builder.Extra Tryz.prog Tryz.lays169_ren := {
  sizeBuilder := by kernel_rfl
  liesBuilder := by kernel_rfl
  t5 := Tryz.underlying5
  a5 := Tryz.isAgg5
  z5 := Tryz.sizeOf5
  v5 := Tryz.zeroValue5
  infoByte := by kernel_rfl
  cellsByte := by kernel_rfl
  sizeByte := by kernel_rfl
  neB5 := by decide }
open Go.RowKit in
theorem Tryz.Builder_String_any (B b : Nat) (l : List UInt8) (w : World) (h : Lib.IsBuilder 148 5 B b (Lib.byteCells l) w) (hBw : B ≤ w.heap.size) :
    Calls Tryz.prog 119 #[.pointer (some ⟨b, 0, none⟩)] w fun e w' => e = .returned (.string ⟨l.toArray⟩) ∧ Below B w w' := Any.Builder_String_any Tryz.lays169 Tryz.Builder_Extra_169 B b l w h hBw
def Tryz.lays156_ren : Go.Shelf.Ren := ⟨fun | 156 => 86 | 165 => 132 | 166 => 117 | 169 => 119 | 240 => 167 | 241 => 178 | 276 => 208 | 277 => 215 | n => n, fun | 31 => 61 | 9 => 9 | 3 => 3 | 4 => 4 | 0 => 0 | 20 => 20 | 72 => 148 | 76 => 151 | 70 => 146 | 37 => 140 | 75 => 150 | 127 => 196 | 164 => 228 | 5 => 5 | 80 => 48 | n => n, fun | n => n⟩
theorem Tryz.lays156 : Go.Proofs.Lays.n156 Tryz.prog Tryz.lays156_ren := {
  mixed := by kernel_rfl
  f156 := Tryz.func86.trans (congrArg some (by kernel_rfl))
  f165 := Tryz.func132.trans (congrArg some (by kernel_rfl))
  f166 := Tryz.func117.trans (congrArg some (by kernel_rfl))
  f169 := Tryz.func119.trans (congrArg some (by kernel_rfl))
  f240 := Tryz.func167.trans (congrArg some (by kernel_rfl))
  f241 := Tryz.func178.trans (congrArg some (by kernel_rfl))
  f276 := Tryz.func208.trans (congrArg some (by kernel_rfl))
  f277 := Tryz.func215.trans (congrArg some (by kernel_rfl))
  t0 := Tryz.underlying0
  a0 := Tryz.isAgg0
  z0 := Tryz.sizeOf0
  v0 := Tryz.zeroValue0
  t3 := Tryz.underlying3
  a3 := Tryz.isAgg3
  z3 := Tryz.sizeOf3
  v3 := Tryz.zeroValue3
  t4 := Tryz.underlying4
  a4 := Tryz.isAgg4
  z4 := Tryz.sizeOf4
  v4 := Tryz.zeroValue4
  t9 := Tryz.underlying9
  a9 := Tryz.isAgg9
  z9 := Tryz.sizeOf9
  v9 := Tryz.zeroValue9
  t20 := Tryz.underlying20
  a20 := Tryz.isAgg20
  z20 := Tryz.sizeOf20
  v20 := Tryz.zeroValue20
  t31 := Tryz.underlying61
  a31 := Tryz.isAgg61
  z31 := Tryz.sizeOf61
  v31 := Tryz.zeroValue61
  t37 := Tryz.underlying140
  a37 := Tryz.isAgg140
  z37 := Tryz.sizeOf140
  v37 := Tryz.zeroValue140
  t70 := Tryz.underlying146
  a70 := Tryz.isAgg146
  z70 := Tryz.sizeOf146
  v70 := Tryz.zeroValue146
  t72 := Tryz.underlying148
  a72 := Tryz.isAgg148
  z72 := Tryz.sizeOf148
  v72 := Tryz.zeroValue148
  t75 := Tryz.underlying150
  a75 := Tryz.isAgg150
  z75 := Tryz.sizeOf150
  v75 := Tryz.zeroValue150
  t76 := Tryz.underlying151
  a76 := Tryz.isAgg151
  z76 := Tryz.sizeOf151
  v76 := Tryz.zeroValue151
  t127 := Tryz.underlying196
  a127 := Tryz.isAgg196
  z127 := Tryz.sizeOf196
  v127 := Tryz.zeroValue196
  t164 := Tryz.underlying228
  a164 := Tryz.isAgg228
  z164 := Tryz.sizeOf228
  v164 := Tryz.zeroValue228 }
theorem Tryz.Builder_Extra_156 : Builder.Extra Tryz.prog Tryz.lays156_ren := {
  sizeBuilder := by kernel_rfl
  liesBuilder := by kernel_rfl
  t5 := Tryz.underlying5
  a5 := Tryz.isAgg5
  z5 := Tryz.sizeOf5
  v5 := Tryz.zeroValue5
  infoByte := by kernel_rfl
  cellsByte := by kernel_rfl
  sizeByte := by kernel_rfl
  neB5 := by decide }
def Tryz.lays161_ren : Go.Shelf.Ren := ⟨fun | 161 => 231 | 231 => 157 | 227 => 159 | 233 => 160 | 235 => 162 | 228 => 203 | 197 => 204 | 151 => 205 | 260 => 234 | 152 => 232 | 137 => 164 | 119 => 250 | 224 => 244 | 225 => 243 | 217 => 207 | 266 => 236 | n => n, fun | 9 => 9 | 4 => 4 | 3 => 3 | 5 => 5 | 117 => 190 | 116 => 189 | 0 => 0 | 124 => 193 | 105 => 225 | 21 => 21 | 119 => 184 | 46 => 179 | 139 => 262 | 138 => 261 | n => n, fun | 3 => 4 | 4 => 5 | n => n⟩
theorem Tryz.lays161 : Go.Proofs.Lays.n161 Tryz.prog Tryz.lays161_ren := {
  mixed := by kernel_rfl
  f119 := Tryz.func250.trans (congrArg some (by kernel_rfl))
  f137 := Tryz.func164.trans (congrArg some (by kernel_rfl))
  f151 := Tryz.func205.trans (congrArg some (by kernel_rfl))
  f152 := Tryz.func232.trans (congrArg some (by kernel_rfl))
  f161 := Tryz.func231.trans (congrArg some (by kernel_rfl))
  f197 := Tryz.func204.trans (congrArg some (by kernel_rfl))
  f217 := Tryz.func207.trans (congrArg some (by kernel_rfl))
  f224 := Tryz.func244.trans (congrArg some (by kernel_rfl))
  f225 := Tryz.func243.trans (congrArg some (by kernel_rfl))
  f227 := Tryz.func159.trans (congrArg some (by kernel_rfl))
  f228 := Tryz.func203.trans (congrArg some (by kernel_rfl))
  f231 := Tryz.func157.trans (congrArg some (by kernel_rfl))
  f233 := Tryz.func160.trans (congrArg some (by kernel_rfl))
  f235 := Tryz.func162.trans (congrArg some (by kernel_rfl))
  f260 := Tryz.func234.trans (congrArg some (by kernel_rfl))
  f266 := Tryz.func236.trans (congrArg some (by kernel_rfl))
  t0 := Tryz.underlying0
  a0 := Tryz.isAgg0
  z0 := Tryz.sizeOf0
  v0 := Tryz.zeroValue0
  t3 := Tryz.underlying3
  a3 := Tryz.isAgg3
  z3 := Tryz.sizeOf3
  v3 := Tryz.zeroValue3
  t4 := Tryz.underlying4
  a4 := Tryz.isAgg4
  z4 := Tryz.sizeOf4
  v4 := Tryz.zeroValue4
  t5 := Tryz.underlying5
  a5 := Tryz.isAgg5
  z5 := Tryz.sizeOf5
  v5 := Tryz.zeroValue5
  t9 := Tryz.underlying9
  a9 := Tryz.isAgg9
  z9 := Tryz.sizeOf9
  v9 := Tryz.zeroValue9
  t21 := Tryz.underlying21
  a21 := Tryz.isAgg21
  z21 := Tryz.sizeOf21
  v21 := Tryz.zeroValue21
  t46 := Tryz.underlying179
  a46 := Tryz.isAgg179
  z46 := Tryz.sizeOf179
  v46 := Tryz.zeroValue179
  t105 := Tryz.underlying225
  a105 := Tryz.isAgg225
  z105 := Tryz.sizeOf225
  v105 := Tryz.zeroValue225
  t116 := Tryz.underlying189
  a116 := Tryz.isAgg189
  z116 := Tryz.sizeOf189
  t117 := Tryz.underlying190
  a117 := Tryz.isAgg190
  z117 := Tryz.sizeOf190
  v117 := Tryz.zeroValue190
  t119 := Tryz.underlying184
  a119 := Tryz.isAgg184
  z119 := Tryz.sizeOf184
  t124 := Tryz.underlying193
  a124 := Tryz.isAgg193
  z124 := Tryz.sizeOf193
  v124 := Tryz.zeroValue193
  t138 := Tryz.underlying261
  a138 := Tryz.isAgg261
  z138 := Tryz.sizeOf261
  v138 := Tryz.zeroValue261
  t139 := Tryz.underlying262
  a139 := Tryz.isAgg262
  z139 := Tryz.sizeOf262
  v139 := Tryz.zeroValue262
  g3 := by kernel_rfl
  g4 := by kernel_rfl }
open Go.RowKit in
theorem Tryz.strings_TrimLeft_one (s : ByteArray) (c : UInt8) (hc : c.toNat < 128) (w : World) :
    Calls Tryz.prog 231 #[.string s, .string ⟨#[c]⟩] w fun e w' => e = .returned (.string ⟨(Lib.trimLeftB s.data.toList c).toArray⟩) ∧ w' = w := Any.strings_TrimLeft_one Tryz.lays161 s c hc w
def Tryz.lays160_ren : Go.Shelf.Ren := ⟨fun | 160 => 111 | 232 => 158 | 231 => 157 | 227 => 159 | 234 => 161 | 233 => 160 | 236 => 163 | 235 => 162 | 228 => 203 | 271 => 206 | 151 => 205 | 197 => 204 | 120 => 235 | 152 => 232 | 260 => 234 | 137 => 164 | 119 => 250 | 224 => 244 | 225 => 243 | 217 => 207 | 266 => 236 | n => n, fun | 9 => 9 | 4 => 4 | 3 => 3 | 5 => 5 | 117 => 190 | 116 => 189 | 0 => 0 | 124 => 193 | 21 => 21 | 105 => 225 | 46 => 179 | 119 => 184 | 139 => 262 | 138 => 261 | n => n, fun | 3 => 4 | 4 => 5 | n => n⟩
theorem Tryz.lays160 : Go.Proofs.Lays.n160 Tryz.prog Tryz.lays160_ren := {
  mixed := by kernel_rfl
  f119 := Tryz.func250.trans (congrArg some (by kernel_rfl))
  f120 := Tryz.func235.trans (congrArg some (by kernel_rfl))
  f137 := Tryz.func164.trans (congrArg some (by kernel_rfl))
  f151 := Tryz.func205.trans (congrArg some (by kernel_rfl))
  f152 := Tryz.func232.trans (congrArg some (by kernel_rfl))
  f160 := Tryz.func111.trans (congrArg some (by kernel_rfl))
  f197 := Tryz.func204.trans (congrArg some (by kernel_rfl))
  f217 := Tryz.func207.trans (congrArg some (by kernel_rfl))
  f224 := Tryz.func244.trans (congrArg some (by kernel_rfl))
  f225 := Tryz.func243.trans (congrArg some (by kernel_rfl))
  f227 := Tryz.func159.trans (congrArg some (by kernel_rfl))
  f228 := Tryz.func203.trans (congrArg some (by kernel_rfl))
  f231 := Tryz.func157.trans (congrArg some (by kernel_rfl))
  f232 := Tryz.func158.trans (congrArg some (by kernel_rfl))
  f233 := Tryz.func160.trans (congrArg some (by kernel_rfl))
  f234 := Tryz.func161.trans (congrArg some (by kernel_rfl))
  f235 := Tryz.func162.trans (congrArg some (by kernel_rfl))
  f236 := Tryz.func163.trans (congrArg some (by kernel_rfl))
  f260 := Tryz.func234.trans (congrArg some (by kernel_rfl))
  f266 := Tryz.func236.trans (congrArg some (by kernel_rfl))
  f271 := Tryz.func206.trans (congrArg some (by kernel_rfl))
  t0 := Tryz.underlying0
  a0 := Tryz.isAgg0
  z0 := Tryz.sizeOf0
  v0 := Tryz.zeroValue0
  t3 := Tryz.underlying3
  a3 := Tryz.isAgg3
  z3 := Tryz.sizeOf3
  v3 := Tryz.zeroValue3
  t4 := Tryz.underlying4
  a4 := Tryz.isAgg4
  z4 := Tryz.sizeOf4
  v4 := Tryz.zeroValue4
  t5 := Tryz.underlying5
  a5 := Tryz.isAgg5
  z5 := Tryz.sizeOf5
  v5 := Tryz.zeroValue5
  t9 := Tryz.underlying9
  a9 := Tryz.isAgg9
  z9 := Tryz.sizeOf9
  v9 := Tryz.zeroValue9
  t21 := Tryz.underlying21
  a21 := Tryz.isAgg21
  z21 := Tryz.sizeOf21
  v21 := Tryz.zeroValue21
  t46 := Tryz.underlying179
  a46 := Tryz.isAgg179
  z46 := Tryz.sizeOf179
  v46 := Tryz.zeroValue179
  t105 := Tryz.underlying225
  a105 := Tryz.isAgg225
  z105 := Tryz.sizeOf225
  v105 := Tryz.zeroValue225
  t116 := Tryz.underlying189
  a116 := Tryz.isAgg189
  z116 := Tryz.sizeOf189
  t117 := Tryz.underlying190
  a117 := Tryz.isAgg190
  z117 := Tryz.sizeOf190
  v117 := Tryz.zeroValue190
  t119 := Tryz.underlying184
  a119 := Tryz.isAgg184
  z119 := Tryz.sizeOf184
  t124 := Tryz.underlying193
  a124 := Tryz.isAgg193
  z124 := Tryz.sizeOf193
  v124 := Tryz.zeroValue193
  t138 := Tryz.underlying261
  a138 := Tryz.isAgg261
  z138 := Tryz.sizeOf261
  v138 := Tryz.zeroValue261
  t139 := Tryz.underlying262
  a139 := Tryz.isAgg262
  z139 := Tryz.sizeOf262
  v139 := Tryz.zeroValue262
  g3 := by kernel_rfl
  g4 := by kernel_rfl }
open Go.RowKit in
theorem Tryz.strings_Trim_one (s : ByteArray) (c : UInt8) (hc : c.toNat < 128) (w : World) (hs : s.size ≤ 9223372036854775807) :
    Calls Tryz.prog 111 #[.string s, .string ⟨#[c]⟩] w fun e w' => e = .returned (.string ⟨(Lib.trimB s.data.toList c).toArray⟩) ∧ (w' = w ∨ w' = w.drew) := Any.strings_Trim_one Tryz.lays160 s c hc w hs
def Tryz.lays106_ren : Go.Shelf.Ren := ⟨fun | 106 => 242 | 213 => 258 | 265 => 265 | n => n, fun | 9 => 9 | 3 => 3 | n => n, fun | n => n⟩
theorem Tryz.lays106 : Go.Proofs.Lays.n106 Tryz.prog Tryz.lays106_ren := {
  mixed := by kernel_rfl
  f106 := Tryz.func242.trans (congrArg some (by kernel_rfl))
  f213 := Tryz.func258.trans (congrArg some (by kernel_rfl))
  f265 := Tryz.func265.trans (congrArg some (by kernel_rfl))
  t3 := Tryz.underlying3
  a3 := Tryz.isAgg3
  z3 := Tryz.sizeOf3
  v3 := Tryz.zeroValue3
  t9 := Tryz.underlying9
  a9 := Tryz.isAgg9
  z9 := Tryz.sizeOf9
  v9 := Tryz.zeroValue9 }
open Go.RowKit in
theorem Tryz.strings_Compare (a b : ByteArray) (w : World) :
    Calls Tryz.prog 242 #[.string a, .string b] w fun e w' => e = .returned (.int .i64 (Lib.compareBytes a.data.toList b.data.toList)) ∧ w' = w := Any.strings_Compare Tryz.lays106 a b w
def Tryz.lays137_ren : Go.Shelf.Ren := ⟨fun | 137 => 164 | 217 => 207 | 266 => 236 | n => n, fun | 9 => 9 | 5 => 5 | 3 => 3 | n => n, fun | n => n⟩
theorem Tryz.lays137 : Go.Proofs.Lays.n137 Tryz.prog Tryz.lays137_ren := {
  mixed := by kernel_rfl
  f137 := Tryz.func164.trans (congrArg some (by kernel_rfl))
  f217 := Tryz.func207.trans (congrArg some (by kernel_rfl))
  f266 := Tryz.func236.trans (congrArg some (by kernel_rfl))
  t3 := Tryz.underlying3
  a3 := Tryz.isAgg3
  z3 := Tryz.sizeOf3
  v3 := Tryz.zeroValue3
  t5 := Tryz.underlying5
  a5 := Tryz.isAgg5
  z5 := Tryz.sizeOf5
  v5 := Tryz.zeroValue5
  t9 := Tryz.underlying9
  a9 := Tryz.isAgg9
  z9 := Tryz.sizeOf9
  v9 := Tryz.zeroValue9 }
open Go.RowKit in
theorem Tryz.strings_IndexByte (s : ByteArray) (c : Int) (w : World) :
    Calls Tryz.prog 164 #[.string s, .int .u8 c] w fun e w' => e = .returned (.int .i64 (Lib.indexByte s.data.toList c.toNat.toUInt8)) ∧ w' = w := Any.strings_IndexByte Tryz.lays137 s c w
def Tryz.lays103_ren : Go.Shelf.Ren := ⟨fun | 103 => 89 | 210 => 136 | 206 => 166 | n => n, fun | 9 => 9 | 4 => 4 | 24 => 125 | 3 => 3 | n => n, fun | n => n⟩
theorem Tryz.lays103 : Go.Proofs.Lays.n103 Tryz.prog Tryz.lays103_ren := {
  mixed := by kernel_rfl
  f103 := Tryz.func89.trans (congrArg some (by kernel_rfl))
  f206 := Tryz.func166.trans (congrArg some (by kernel_rfl))
  f210 := Tryz.func136.trans (congrArg some (by kernel_rfl))
  t3 := Tryz.underlying3
  a3 := Tryz.isAgg3
  z3 := Tryz.sizeOf3
  v3 := Tryz.zeroValue3
  t4 := Tryz.underlying4
  a4 := Tryz.isAgg4
  z4 := Tryz.sizeOf4
  v4 := Tryz.zeroValue4
  t9 := Tryz.underlying9
  a9 := Tryz.isAgg9
  z9 := Tryz.sizeOf9
  v9 := Tryz.zeroValue9
  t24 := Tryz.underlying125
  a24 := Tryz.isAgg125
  z24 := Tryz.sizeOf125
  v24 := Tryz.zeroValue125 }
open Go.RowKit in
theorem Tryz.strings_CutPrefix (s p : ByteArray) (w : World) :
    Calls Tryz.prog 89 #[.string s, .string p] w fun e w' => e = .returned (.tuple #[.string ⟨(Lib.trimPrefix s.data.toList p.data.toList).toArray⟩, .bool (Lib.hasPrefix s.data.toList p.data.toList)]) ∧ w' = w := Any.strings_CutPrefix Tryz.lays103 s p w
def Tryz.lays104_ren : Go.Shelf.Ren := ⟨fun | 104 => 187 | 211 => 221 | 207 => 199 | n => n, fun | 9 => 9 | 4 => 4 | 24 => 125 | 3 => 3 | n => n, fun | n => n⟩
theorem Tryz.lays104 : Go.Proofs.Lays.n104 Tryz.prog Tryz.lays104_ren := {
  mixed := by kernel_rfl
  f104 := Tryz.func187.trans (congrArg some (by kernel_rfl))
  f207 := Tryz.func199.trans (congrArg some (by kernel_rfl))
  f211 := Tryz.func221.trans (congrArg some (by kernel_rfl))
  t3 := Tryz.underlying3
  a3 := Tryz.isAgg3
  z3 := Tryz.sizeOf3
  v3 := Tryz.zeroValue3
  t4 := Tryz.underlying4
  a4 := Tryz.isAgg4
  z4 := Tryz.sizeOf4
  v4 := Tryz.zeroValue4
  t9 := Tryz.underlying9
  a9 := Tryz.isAgg9
  z9 := Tryz.sizeOf9
  v9 := Tryz.zeroValue9
  t24 := Tryz.underlying125
  a24 := Tryz.isAgg125
  z24 := Tryz.sizeOf125
  v24 := Tryz.zeroValue125 }
open Go.RowKit in
theorem Tryz.strings_CutSuffix (s p : ByteArray) (w : World) (hs : s.size ≤ 9223372036854775807) :
    Calls Tryz.prog 187 #[.string s, .string p] w fun e w' => e = .returned (.tuple #[.string ⟨(Lib.trimSuffix s.data.toList p.data.toList).toArray⟩, .bool (Lib.hasSuffix s.data.toList p.data.toList)]) ∧ w' = w := Any.strings_CutSuffix Tryz.lays104 s p w hs
def Tryz.lays122_ren : Go.Shelf.Ren := ⟨fun | 122 => 241 | 215 => 257 | n => n, fun | 3 => 3 | 4 => 4 | n => n, fun | n => n⟩
theorem Tryz.lays122 : Go.Proofs.Lays.n122 Tryz.prog Tryz.lays122_ren := {
  mixed := by kernel_rfl
  f122 := Tryz.func241.trans (congrArg some (by kernel_rfl))
  f215 := Tryz.func257.trans (congrArg some (by kernel_rfl))
  t3 := Tryz.underlying3
  a3 := Tryz.isAgg3
  z3 := Tryz.sizeOf3
  v3 := Tryz.zeroValue3
  t4 := Tryz.underlying4
  a4 := Tryz.isAgg4
  z4 := Tryz.sizeOf4
  v4 := Tryz.zeroValue4 }
open Go.RowKit in
theorem Tryz.cmp_Compare_int (x y : Int) (w : World) :
    Calls Tryz.prog 241 #[.int .i64 x, .int .i64 y] w fun e w' => e = .returned (.int .i64 (Lib.compareInt x y)) ∧ w' = w := Any.cmp_Compare_int Tryz.lays122 x y w
open Go.RowKit in
theorem Tryz.Builder_Len_f (B b : Nat) (bs : List Value) (w : World) (h : Lib.IsBuilderF 148 5 B b bs w) :
    Calls Tryz.prog 146 #[.pointer (some ⟨b, 0, none⟩)] w fun e w' => e = .returned (.int .i64 bs.length) ∧ w' = w := Any.Builder_Len_f Tryz.lays170 B b bs w h
def Tryz.laysM171_ren : Go.Shelf.Ren := ⟨fun | 171 => 39 | 243 => 96 | 246 => 144 | 283 => 193 | 284 => 194 | 285 => 195 | 286 => 196 | 129 => 225 | 317 => 224 | 318 => 226 | 319 => 227 | 320 => 228 | 337 => 248 | 338 => 249 | n => n, fun | 3 => 3 | 9 => 9 | 2 => 2 | 4 => 4 | 171 => 207 | 0 => 0 | 53 => 208 | 37 => 140 | 5 => 5 | 173 => 211 | 212 => 238 | 51 => 213 | 20 => 20 | 213 => 239 | 46 => 179 | 232 => 271 | 233 => 272 | n => n, fun | 17 => 2 | 18 => 6 | 19 => 7 | n => n⟩
theorem Tryz.laysM171 : Go.Proofs.LaysM.n171 Tryz.prog Tryz.laysM171_ren := {
  mixed := by kernel_rfl
  f129 := Tryz.func225.trans (congrArg some (by kernel_rfl))
  f171 := Tryz.func39.trans (congrArg some (by kernel_rfl))
  f243 := Tryz.func96.trans (congrArg some (by kernel_rfl))
  f246 := Tryz.func144.trans (congrArg some (by kernel_rfl))
  f283 := Tryz.func193.trans (congrArg some (by kernel_rfl))
  f284 := Tryz.func194.trans (congrArg some (by kernel_rfl))
  f285 := Tryz.func195.trans (congrArg some (by kernel_rfl))
  f286 := Tryz.func196.trans (congrArg some (by kernel_rfl))
  f317 := Tryz.func224.trans (congrArg some (by kernel_rfl))
  f318 := Tryz.func226.trans (congrArg some (by kernel_rfl))
  f319 := Tryz.func227.trans (congrArg some (by kernel_rfl))
  f320 := Tryz.func228.trans (congrArg some (by kernel_rfl))
  f337 := Tryz.func248.trans (congrArg some (by kernel_rfl))
  f338 := Tryz.func249.trans (congrArg some (by kernel_rfl))
  t0 := Tryz.underlying0
  a0 := Tryz.isAgg0
  z0 := Tryz.sizeOf0
  v0 := Tryz.zeroValue0
  t2 := Tryz.underlying2
  a2 := Tryz.isAgg2
  z2 := Tryz.sizeOf2
  v2 := Tryz.zeroValue2
  t3 := Tryz.underlying3
  a3 := Tryz.isAgg3
  z3 := Tryz.sizeOf3
  v3 := Tryz.zeroValue3
  t4 := Tryz.underlying4
  a4 := Tryz.isAgg4
  z4 := Tryz.sizeOf4
  v4 := Tryz.zeroValue4
  t5 := Tryz.underlying5
  a5 := Tryz.isAgg5
  z5 := Tryz.sizeOf5
  v5 := Tryz.zeroValue5
  t9 := Tryz.underlying9
  a9 := Tryz.isAgg9
  z9 := Tryz.sizeOf9
  v9 := Tryz.zeroValue9
  t20 := Tryz.underlying20
  a20 := Tryz.isAgg20
  z20 := Tryz.sizeOf20
  v20 := Tryz.zeroValue20
  t37 := Tryz.underlying140
  a37 := Tryz.isAgg140
  z37 := Tryz.sizeOf140
  v37 := Tryz.zeroValue140
  t46 := Tryz.underlying179
  a46 := Tryz.isAgg179
  z46 := Tryz.sizeOf179
  v46 := Tryz.zeroValue179
  t51 := Tryz.underlying213
  a51 := Tryz.isAgg213
  z51 := Tryz.sizeOf213
  v51 := Tryz.zeroValue213
  t53 := Tryz.underlying208
  a53 := Tryz.isAgg208
  z53 := Tryz.sizeOf208
  v53 := Tryz.zeroValue208
  t171 := Tryz.underlying207
  a171 := Tryz.isAgg207
  z171 := Tryz.sizeOf207
  v171 := Tryz.zeroValue207
  t173 := Tryz.underlying211
  a173 := Tryz.isAgg211
  z173 := Tryz.sizeOf211
  v173 := Tryz.zeroValue211
  t212 := Tryz.underlying238
  a212 := Tryz.isAgg238
  z212 := Tryz.sizeOf238
  v212 := Tryz.zeroValue238
  t213 := Tryz.underlying239
  a213 := Tryz.isAgg239
  z213 := Tryz.sizeOf239
  t232 := Tryz.underlying271
  a232 := Tryz.isAgg271
  z232 := Tryz.sizeOf271
  v232 := Tryz.zeroValue271
  t233 := Tryz.underlying272
  a233 := Tryz.isAgg272
  z233 := Tryz.sizeOf272
  v233 := Tryz.zeroValue272
  g17 := by kernel_rfl
  g18 := by kernel_rfl
  g19 := by kernel_rfl
  i0 := by kernel_rfl
  i2 := by kernel_rfl
  i3 := by kernel_rfl
  i4 := by kernel_rfl
  i5 := by kernel_rfl
  i9 := by kernel_rfl
  i20 := by kernel_rfl
  i37 := by kernel_rfl
  i46 := by kernel_rfl
  i51 := by kernel_rfl
  i53 := by kernel_rfl
  i171 := by kernel_rfl
  i173 := by kernel_rfl
  i212 := by kernel_rfl
  i232 := by kernel_rfl
  i233 := by kernel_rfl
  m17 := by kernel_rfl
  m18 := by kernel_rfl
  m19 := by kernel_rfl }
def Tryz.lays171_ren : Go.Shelf.Ren := ⟨fun | 171 => 39 | 243 => 96 | 246 => 144 | 283 => 193 | 284 => 194 | 285 => 195 | 286 => 196 | 129 => 225 | 317 => 224 | 318 => 226 | 319 => 227 | 320 => 228 | 337 => 248 | 338 => 249 | n => n, fun | 3 => 3 | 9 => 9 | 2 => 2 | 4 => 4 | 171 => 207 | 0 => 0 | 53 => 208 | 37 => 140 | 5 => 5 | 173 => 211 | 212 => 238 | 51 => 213 | 20 => 20 | 213 => 239 | 46 => 179 | 232 => 271 | 233 => 272 | n => n, fun | 17 => 2 | 18 => 6 | 19 => 7 | n => n⟩
theorem Tryz.lays171 : Go.Proofs.Lays.n171 Tryz.prog Tryz.lays171_ren := {
  mixed := by kernel_rfl
  f129 := Tryz.func225.trans (congrArg some (by kernel_rfl))
  f171 := Tryz.func39.trans (congrArg some (by kernel_rfl))
  f243 := Tryz.func96.trans (congrArg some (by kernel_rfl))
  f246 := Tryz.func144.trans (congrArg some (by kernel_rfl))
  f283 := Tryz.func193.trans (congrArg some (by kernel_rfl))
  f284 := Tryz.func194.trans (congrArg some (by kernel_rfl))
  f285 := Tryz.func195.trans (congrArg some (by kernel_rfl))
  f286 := Tryz.func196.trans (congrArg some (by kernel_rfl))
  f317 := Tryz.func224.trans (congrArg some (by kernel_rfl))
  f318 := Tryz.func226.trans (congrArg some (by kernel_rfl))
  f319 := Tryz.func227.trans (congrArg some (by kernel_rfl))
  f320 := Tryz.func228.trans (congrArg some (by kernel_rfl))
  f337 := Tryz.func248.trans (congrArg some (by kernel_rfl))
  f338 := Tryz.func249.trans (congrArg some (by kernel_rfl))
  t0 := Tryz.underlying0
  a0 := Tryz.isAgg0
  z0 := Tryz.sizeOf0
  v0 := Tryz.zeroValue0
  t2 := Tryz.underlying2
  a2 := Tryz.isAgg2
  z2 := Tryz.sizeOf2
  v2 := Tryz.zeroValue2
  t3 := Tryz.underlying3
  a3 := Tryz.isAgg3
  z3 := Tryz.sizeOf3
  v3 := Tryz.zeroValue3
  t4 := Tryz.underlying4
  a4 := Tryz.isAgg4
  z4 := Tryz.sizeOf4
  v4 := Tryz.zeroValue4
  t5 := Tryz.underlying5
  a5 := Tryz.isAgg5
  z5 := Tryz.sizeOf5
  v5 := Tryz.zeroValue5
  t9 := Tryz.underlying9
  a9 := Tryz.isAgg9
  z9 := Tryz.sizeOf9
  v9 := Tryz.zeroValue9
  t20 := Tryz.underlying20
  a20 := Tryz.isAgg20
  z20 := Tryz.sizeOf20
  v20 := Tryz.zeroValue20
  t37 := Tryz.underlying140
  a37 := Tryz.isAgg140
  z37 := Tryz.sizeOf140
  v37 := Tryz.zeroValue140
  t46 := Tryz.underlying179
  a46 := Tryz.isAgg179
  z46 := Tryz.sizeOf179
  v46 := Tryz.zeroValue179
  t51 := Tryz.underlying213
  a51 := Tryz.isAgg213
  z51 := Tryz.sizeOf213
  v51 := Tryz.zeroValue213
  t53 := Tryz.underlying208
  a53 := Tryz.isAgg208
  z53 := Tryz.sizeOf208
  v53 := Tryz.zeroValue208
  t171 := Tryz.underlying207
  a171 := Tryz.isAgg207
  z171 := Tryz.sizeOf207
  v171 := Tryz.zeroValue207
  t173 := Tryz.underlying211
  a173 := Tryz.isAgg211
  z173 := Tryz.sizeOf211
  v173 := Tryz.zeroValue211
  t212 := Tryz.underlying238
  a212 := Tryz.isAgg238
  z212 := Tryz.sizeOf238
  v212 := Tryz.zeroValue238
  t213 := Tryz.underlying239
  a213 := Tryz.isAgg239
  z213 := Tryz.sizeOf239
  t232 := Tryz.underlying271
  a232 := Tryz.isAgg271
  z232 := Tryz.sizeOf271
  v232 := Tryz.zeroValue271
  t233 := Tryz.underlying272
  a233 := Tryz.isAgg272
  z233 := Tryz.sizeOf272
  v233 := Tryz.zeroValue272
  g17 := by kernel_rfl
  g18 := by kernel_rfl
  g19 := by kernel_rfl }
open Go.RowKit Go.Sort Go.Lib in
theorem Tryz.strconv_Itoa_small (i : Nat) (hi : i < 100) (w : World) :
    Calls Tryz.prog 39 #[.int .i64 i] w fun e w' => e = .returned (.string ⟨(Lib.decDigits i).toArray⟩) ∧ w' = w := Any.strconv_Itoa_small Tryz.lays171 i hi w
def Tryz.laysC172_ren : Go.Shelf.Ren := ⟨fun | 172 => 211 | 244 => 238 | 245 => 239 | 247 => 252 | 279 => 253 | 280 => 254 | 281 => 255 | 282 => 256 | 287 => 262 | 316 => 263 | 171 => 39 | 205 => 264 | 321 => 266 | 322 => 267 | 243 => 96 | 246 => 144 | 283 => 193 | 284 => 194 | 285 => 195 | 286 => 196 | 129 => 225 | 317 => 224 | 318 => 226 | 319 => 227 | 320 => 228 | 337 => 248 | 338 => 249 | n => n, fun | 9 => 9 | 3 => 3 | 75 => 150 | 76 => 151 | 4 => 4 | 5 => 5 | 167 => 264 | 37 => 140 | 0 => 0 | 85 => 265 | 2 => 2 | 168 => 267 | 53 => 208 | 175 => 273 | 46 => 179 | 210 => 277 | 127 => 196 | 145 => 282 | 143 => 280 | 21 => 21 | 171 => 207 | 173 => 211 | 212 => 238 | 51 => 213 | 20 => 20 | 213 => 239 | 232 => 271 | 233 => 272 | 80 => 48 | n => n, fun | 15 => 8 | 16 => 9 | 17 => 2 | 18 => 6 | 19 => 7 | n => n⟩
theorem Tryz.laysC172 : Go.Proofs.LaysC.n172 Tryz.prog Tryz.laysC172_ren := {
  mixed := by kernel_rfl
  f129 := Tryz.func225.trans (congrArg some (by kernel_rfl))
  f171 := Tryz.func39.trans (congrArg some (by kernel_rfl))
  f172 := Tryz.func211.trans (congrArg some (by kernel_rfl))
  f205 := Tryz.func264.trans (congrArg some (by kernel_rfl))
  f243 := Tryz.func96.trans (congrArg some (by kernel_rfl))
  f244 := Tryz.func238.trans (congrArg some (by kernel_rfl))
  f245 := Tryz.func239.trans (congrArg some (by kernel_rfl))
  f246 := Tryz.func144.trans (congrArg some (by kernel_rfl))
  f247 := Tryz.func252.trans (congrArg some (by kernel_rfl))
  f279 := Tryz.func253.trans (congrArg some (by kernel_rfl))
  f280 := Tryz.func254.trans (congrArg some (by kernel_rfl))
  f281 := Tryz.func255.trans (congrArg some (by kernel_rfl))
  f282 := Tryz.func256.trans (congrArg some (by kernel_rfl))
  f283 := Tryz.func193.trans (congrArg some (by kernel_rfl))
  f284 := Tryz.func194.trans (congrArg some (by kernel_rfl))
  f285 := Tryz.func195.trans (congrArg some (by kernel_rfl))
  f286 := Tryz.func196.trans (congrArg some (by kernel_rfl))
  f287 := Tryz.func262.trans (congrArg some (by kernel_rfl))
  f316 := Tryz.func263.trans (congrArg some (by kernel_rfl))
  f317 := Tryz.func224.trans (congrArg some (by kernel_rfl))
  f318 := Tryz.func226.trans (congrArg some (by kernel_rfl))
  f319 := Tryz.func227.trans (congrArg some (by kernel_rfl))
  f320 := Tryz.func228.trans (congrArg some (by kernel_rfl))
  f321 := Tryz.func266.trans (congrArg some (by kernel_rfl))
  f322 := Tryz.func267.trans (congrArg some (by kernel_rfl))
  f337 := Tryz.func248.trans (congrArg some (by kernel_rfl))
  f338 := Tryz.func249.trans (congrArg some (by kernel_rfl))
  t0 := Tryz.underlying0
  a0 := Tryz.isAgg0
  z0 := Tryz.sizeOf0
  v0 := Tryz.zeroValue0
  t2 := Tryz.underlying2
  a2 := Tryz.isAgg2
  z2 := Tryz.sizeOf2
  v2 := Tryz.zeroValue2
  t3 := Tryz.underlying3
  a3 := Tryz.isAgg3
  z3 := Tryz.sizeOf3
  v3 := Tryz.zeroValue3
  t4 := Tryz.underlying4
  a4 := Tryz.isAgg4
  z4 := Tryz.sizeOf4
  v4 := Tryz.zeroValue4
  t5 := Tryz.underlying5
  a5 := Tryz.isAgg5
  z5 := Tryz.sizeOf5
  v5 := Tryz.zeroValue5
  t9 := Tryz.underlying9
  a9 := Tryz.isAgg9
  z9 := Tryz.sizeOf9
  v9 := Tryz.zeroValue9
  t20 := Tryz.underlying20
  a20 := Tryz.isAgg20
  z20 := Tryz.sizeOf20
  v20 := Tryz.zeroValue20
  t21 := Tryz.underlying21
  a21 := Tryz.isAgg21
  z21 := Tryz.sizeOf21
  v21 := Tryz.zeroValue21
  t37 := Tryz.underlying140
  a37 := Tryz.isAgg140
  z37 := Tryz.sizeOf140
  v37 := Tryz.zeroValue140
  t46 := Tryz.underlying179
  a46 := Tryz.isAgg179
  z46 := Tryz.sizeOf179
  v46 := Tryz.zeroValue179
  t51 := Tryz.underlying213
  a51 := Tryz.isAgg213
  z51 := Tryz.sizeOf213
  v51 := Tryz.zeroValue213
  t53 := Tryz.underlying208
  a53 := Tryz.isAgg208
  z53 := Tryz.sizeOf208
  v53 := Tryz.zeroValue208
  t75 := Tryz.underlying150
  a75 := Tryz.isAgg150
  z75 := Tryz.sizeOf150
  v75 := Tryz.zeroValue150
  t76 := Tryz.underlying151
  a76 := Tryz.isAgg151
  z76 := Tryz.sizeOf151
  v76 := Tryz.zeroValue151
  t85 := Tryz.underlying265
  a85 := Tryz.isAgg265
  z85 := Tryz.sizeOf265
  v85 := Tryz.zeroValue265
  t127 := Tryz.underlying196
  a127 := Tryz.isAgg196
  z127 := Tryz.sizeOf196
  v127 := Tryz.zeroValue196
  t143 := Tryz.underlying280
  a143 := Tryz.isAgg280
  z143 := Tryz.sizeOf280
  v143 := Tryz.zeroValue280
  t145 := Tryz.underlying282
  a145 := Tryz.isAgg282
  z145 := Tryz.sizeOf282
  v145 := Tryz.zeroValue282
  t167 := Tryz.underlying264
  a167 := Tryz.isAgg264
  z167 := Tryz.sizeOf264
  v167 := Tryz.zeroValue264
  t168 := Tryz.underlying267
  a168 := Tryz.isAgg267
  z168 := Tryz.sizeOf267
  v168 := Tryz.zeroValue267
  t171 := Tryz.underlying207
  a171 := Tryz.isAgg207
  z171 := Tryz.sizeOf207
  v171 := Tryz.zeroValue207
  t173 := Tryz.underlying211
  a173 := Tryz.isAgg211
  z173 := Tryz.sizeOf211
  v173 := Tryz.zeroValue211
  t175 := Tryz.underlying273
  a175 := Tryz.isAgg273
  z175 := Tryz.sizeOf273
  v175 := Tryz.zeroValue273
  t210 := Tryz.underlying277
  a210 := Tryz.isAgg277
  z210 := Tryz.sizeOf277
  v210 := Tryz.zeroValue277
  t212 := Tryz.underlying238
  a212 := Tryz.isAgg238
  z212 := Tryz.sizeOf238
  v212 := Tryz.zeroValue238
  t213 := Tryz.underlying239
  a213 := Tryz.isAgg239
  z213 := Tryz.sizeOf239
  t232 := Tryz.underlying271
  a232 := Tryz.isAgg271
  z232 := Tryz.sizeOf271
  v232 := Tryz.zeroValue271
  t233 := Tryz.underlying272
  a233 := Tryz.isAgg272
  z233 := Tryz.sizeOf272
  v233 := Tryz.zeroValue272
  g15 := by kernel_rfl
  g16 := by kernel_rfl
  g17 := by kernel_rfl
  g18 := by kernel_rfl
  g19 := by kernel_rfl
  t80 := Tryz.underlying48
  a80 := Tryz.isAgg48
  z80 := Tryz.sizeOf48
  v80 := Tryz.zeroValue48
  i0 := by kernel_rfl
  i2 := by kernel_rfl
  i3 := by kernel_rfl
  i4 := by kernel_rfl
  i5 := by kernel_rfl
  i9 := by kernel_rfl
  i20 := by kernel_rfl
  i21 := by kernel_rfl
  i37 := by kernel_rfl
  i46 := by kernel_rfl
  i51 := by kernel_rfl
  i53 := by kernel_rfl
  i75 := by kernel_rfl
  i76 := by kernel_rfl
  i80 := by kernel_rfl
  i85 := by kernel_rfl
  i127 := by kernel_rfl
  i143 := by kernel_rfl
  i145 := by kernel_rfl
  i167 := by kernel_rfl
  i168 := by kernel_rfl
  i171 := by kernel_rfl
  i173 := by kernel_rfl
  i175 := by kernel_rfl
  i210 := by kernel_rfl
  i212 := by kernel_rfl
  i232 := by kernel_rfl
  i233 := by kernel_rfl
  m15 := by kernel_rfl
  m16 := by kernel_rfl
  m17 := by kernel_rfl
  m18 := by kernel_rfl
  m19 := by kernel_rfl
  c0 := by kernel_rfl
  c2 := by kernel_rfl
  c3 := by kernel_rfl
  c4 := by kernel_rfl
  c5 := by kernel_rfl
  c9 := by kernel_rfl
  c20 := by kernel_rfl
  c21 := by kernel_rfl
  c37 := by kernel_rfl
  c46 := by kernel_rfl
  c51 := by kernel_rfl
  c53 := by kernel_rfl
  c75 := by kernel_rfl
  c76 := by kernel_rfl
  c80 := by kernel_rfl
  c85 := by kernel_rfl
  c127 := by kernel_rfl
  c143 := by kernel_rfl
  c145 := by kernel_rfl
  c167 := by kernel_rfl
  c168 := by kernel_rfl
  c171 := by kernel_rfl
  c173 := by kernel_rfl
  c175 := by kernel_rfl
  c210 := by kernel_rfl
  c212 := by kernel_rfl
  c213 := by kernel_rfl
  c232 := by kernel_rfl
  c233 := by kernel_rfl }
def Tryz.lays219_ren : Go.Shelf.Ren := ⟨fun | 219 => 218 | 217 => 207 | 225 => 243 | 224 => 244 | 267 => 245 | 266 => 236 | 314 => 259 | n => n, fun | 9 => 9 | 3 => 3 | 4 => 4 | 5 => 5 | 46 => 179 | 146 => 214 | 51 => 213 | n => n, fun | 1 => 3 | n => n⟩
theorem Tryz.lays219 : Go.Proofs.Lays.n219 Tryz.prog Tryz.lays219_ren := {
  mixed := by kernel_rfl
  f217 := Tryz.func207.trans (congrArg some (by kernel_rfl))
  f219 := Tryz.func218.trans (congrArg some (by kernel_rfl))
  f224 := Tryz.func244.trans (congrArg some (by kernel_rfl))
  f225 := Tryz.func243.trans (congrArg some (by kernel_rfl))
  f266 := Tryz.func236.trans (congrArg some (by kernel_rfl))
  f267 := Tryz.func245.trans (congrArg some (by kernel_rfl))
  f314 := Tryz.func259.trans (congrArg some (by kernel_rfl))
  t3 := Tryz.underlying3
  a3 := Tryz.isAgg3
  z3 := Tryz.sizeOf3
  v3 := Tryz.zeroValue3
  t4 := Tryz.underlying4
  a4 := Tryz.isAgg4
  z4 := Tryz.sizeOf4
  v4 := Tryz.zeroValue4
  t5 := Tryz.underlying5
  a5 := Tryz.isAgg5
  z5 := Tryz.sizeOf5
  v5 := Tryz.zeroValue5
  t9 := Tryz.underlying9
  a9 := Tryz.isAgg9
  z9 := Tryz.sizeOf9
  v9 := Tryz.zeroValue9
  t46 := Tryz.underlying179
  a46 := Tryz.isAgg179
  z46 := Tryz.sizeOf179
  v46 := Tryz.zeroValue179
  t51 := Tryz.underlying213
  a51 := Tryz.isAgg213
  z51 := Tryz.sizeOf213
  v51 := Tryz.zeroValue213
  t146 := Tryz.underlying214
  a146 := Tryz.isAgg214
  z146 := Tryz.sizeOf214
  v146 := Tryz.zeroValue214
  g1 := by kernel_rfl }
open Go.RowKit Go.Lib in
theorem Tryz.stringslite_Index_one (s : ByteArray) (c : UInt8) (w : World) :
    Calls Tryz.prog 218 #[.string s, .string ⟨#[c]⟩] w fun e w' => e = .returned (.int .i64 (Lib.indexByte s.data.toList c)) ∧ w' = w := Any.stringslite_Index_one Tryz.lays219 s c w
def Tryz.lays143_ren : Go.Shelf.Ren := ⟨fun | 143 => 181 | 219 => 218 | 217 => 207 | 225 => 243 | 224 => 244 | 267 => 245 | 266 => 236 | 314 => 259 | n => n, fun | 9 => 9 | 3 => 3 | 4 => 4 | 5 => 5 | 46 => 179 | 146 => 214 | 51 => 213 | n => n, fun | 1 => 3 | n => n⟩
theorem Tryz.lays143 : Go.Proofs.Lays.n143 Tryz.prog Tryz.lays143_ren := {
  mixed := by kernel_rfl
  f143 := Tryz.func181.trans (congrArg some (by kernel_rfl))
  f217 := Tryz.func207.trans (congrArg some (by kernel_rfl))
  f219 := Tryz.func218.trans (congrArg some (by kernel_rfl))
  f224 := Tryz.func244.trans (congrArg some (by kernel_rfl))
  f225 := Tryz.func243.trans (congrArg some (by kernel_rfl))
  f266 := Tryz.func236.trans (congrArg some (by kernel_rfl))
  f267 := Tryz.func245.trans (congrArg some (by kernel_rfl))
  f314 := Tryz.func259.trans (congrArg some (by kernel_rfl))
  t3 := Tryz.underlying3
  a3 := Tryz.isAgg3
  z3 := Tryz.sizeOf3
  v3 := Tryz.zeroValue3
  t4 := Tryz.underlying4
  a4 := Tryz.isAgg4
  z4 := Tryz.sizeOf4
  v4 := Tryz.zeroValue4
  t5 := Tryz.underlying5
  a5 := Tryz.isAgg5
  z5 := Tryz.sizeOf5
  v5 := Tryz.zeroValue5
  t9 := Tryz.underlying9
  a9 := Tryz.isAgg9
  z9 := Tryz.sizeOf9
  v9 := Tryz.zeroValue9
  t46 := Tryz.underlying179
  a46 := Tryz.isAgg179
  z46 := Tryz.sizeOf179
  v46 := Tryz.zeroValue179
  t51 := Tryz.underlying213
  a51 := Tryz.isAgg213
  z51 := Tryz.sizeOf213
  v51 := Tryz.zeroValue213
  t146 := Tryz.underlying214
  a146 := Tryz.isAgg214
  z146 := Tryz.sizeOf214
  v146 := Tryz.zeroValue214
  g1 := by kernel_rfl }
open Go.RowKit Go.Lib in
theorem Tryz.strings_Index_one (s : ByteArray) (c : UInt8) (w : World) :
    Calls Tryz.prog 181 #[.string s, .string ⟨#[c]⟩] w fun e w' => e = .returned (.int .i64 (Lib.indexByte s.data.toList c)) ∧ w' = w := Any.strings_Index_one Tryz.lays143 s c w
def Tryz.lays144_ren : Go.Shelf.Ren := ⟨fun | 144 => 148 | 143 => 181 | 219 => 218 | 217 => 207 | 225 => 243 | 224 => 244 | 267 => 245 | 266 => 236 | 314 => 259 | n => n, fun | 9 => 9 | 4 => 4 | 3 => 3 | 5 => 5 | 46 => 179 | 146 => 214 | 51 => 213 | n => n, fun | 1 => 3 | n => n⟩
theorem Tryz.lays144 : Go.Proofs.Lays.n144 Tryz.prog Tryz.lays144_ren := {
  mixed := by kernel_rfl
  f143 := Tryz.func181.trans (congrArg some (by kernel_rfl))
  f144 := Tryz.func148.trans (congrArg some (by kernel_rfl))
  f217 := Tryz.func207.trans (congrArg some (by kernel_rfl))
  f219 := Tryz.func218.trans (congrArg some (by kernel_rfl))
  f224 := Tryz.func244.trans (congrArg some (by kernel_rfl))
  f225 := Tryz.func243.trans (congrArg some (by kernel_rfl))
  f266 := Tryz.func236.trans (congrArg some (by kernel_rfl))
  f267 := Tryz.func245.trans (congrArg some (by kernel_rfl))
  f314 := Tryz.func259.trans (congrArg some (by kernel_rfl))
  t3 := Tryz.underlying3
  a3 := Tryz.isAgg3
  z3 := Tryz.sizeOf3
  v3 := Tryz.zeroValue3
  t4 := Tryz.underlying4
  a4 := Tryz.isAgg4
  z4 := Tryz.sizeOf4
  v4 := Tryz.zeroValue4
  t5 := Tryz.underlying5
  a5 := Tryz.isAgg5
  z5 := Tryz.sizeOf5
  v5 := Tryz.zeroValue5
  t9 := Tryz.underlying9
  a9 := Tryz.isAgg9
  z9 := Tryz.sizeOf9
  v9 := Tryz.zeroValue9
  t46 := Tryz.underlying179
  a46 := Tryz.isAgg179
  z46 := Tryz.sizeOf179
  v46 := Tryz.zeroValue179
  t51 := Tryz.underlying213
  a51 := Tryz.isAgg213
  z51 := Tryz.sizeOf213
  v51 := Tryz.zeroValue213
  t146 := Tryz.underlying214
  a146 := Tryz.isAgg214
  z146 := Tryz.sizeOf214
  v146 := Tryz.zeroValue214
  g1 := by kernel_rfl }
open Go.RowKit Go.Lib in
theorem Tryz.strings_Contains_one (s : ByteArray) (c : UInt8) (w : World) :
    Calls Tryz.prog 148 #[.string s, .string ⟨#[c]⟩] w fun e w' => e = .returned (.bool (decide (0 ≤ Lib.indexByte s.data.toList c))) ∧ w' = w := Any.strings_Contains_one Tryz.lays144 s c w
open Go.RowKit Go.Lib in
theorem Tryz.strings_Contains (s sub : ByteArray) (m : Int) (w : World) (hs : s.size < 4294967281) (hm : w.cell? ⟨3, 0, none⟩ = some (.int .i64 m)) :
    Calls Tryz.prog 148 #[.string s, .string sub] w fun e w' => e = .returned (.bool (Lib.contains s.data.toList sub.data.toList)) ∧ w' = w := Any.strings_Contains Tryz.lays144 s sub m w hs hm
def Tryz.lays148_ren : Go.Shelf.Ren := ⟨fun | 148 => 219 | 222 => 246 | 223 => 247 | 269 => 260 | n => n, fun | 9 => 9 | 3 => 3 | 4 => 4 | 5 => 5 | 146 => 214 | 51 => 213 | 46 => 179 | n => n, fun | n => n⟩
theorem Tryz.lays148 : Go.Proofs.Lays.n148 Tryz.prog Tryz.lays148_ren := {
  mixed := by kernel_rfl
  f148 := Tryz.func219.trans (congrArg some (by kernel_rfl))
  f222 := Tryz.func246.trans (congrArg some (by kernel_rfl))
  f223 := Tryz.func247.trans (congrArg some (by kernel_rfl))
  f269 := Tryz.func260.trans (congrArg some (by kernel_rfl))
  t3 := Tryz.underlying3
  a3 := Tryz.isAgg3
  z3 := Tryz.sizeOf3
  v3 := Tryz.zeroValue3
  t4 := Tryz.underlying4
  a4 := Tryz.isAgg4
  z4 := Tryz.sizeOf4
  v4 := Tryz.zeroValue4
  t5 := Tryz.underlying5
  a5 := Tryz.isAgg5
  z5 := Tryz.sizeOf5
  v5 := Tryz.zeroValue5
  t9 := Tryz.underlying9
  a9 := Tryz.isAgg9
  z9 := Tryz.sizeOf9
  v9 := Tryz.zeroValue9
  t46 := Tryz.underlying179
  a46 := Tryz.isAgg179
  z46 := Tryz.sizeOf179
  v46 := Tryz.zeroValue179
  t51 := Tryz.underlying213
  a51 := Tryz.isAgg213
  z51 := Tryz.sizeOf213
  v51 := Tryz.zeroValue213
  t146 := Tryz.underlying214
  a146 := Tryz.isAgg214
  z146 := Tryz.sizeOf214
  v146 := Tryz.zeroValue214 }
open Go.RowKit Go.Lib in
theorem Tryz.strings_LastIndex_one (s sub : ByteArray) (h1 : sub.size = 1) (hs : s.size < 4611686018427387904) (w : World) :
    Calls Tryz.prog 219 #[.string s, .string sub] w fun e w' => e = .returned (.int .i64 (Lib.lastIndexByte s ((sub[0]'(by omega)).toNat : Int))) ∧ w' = w := Any.strings_LastIndex_one Tryz.lays148 s sub h1 hs w
open Go.RowKit Go.Lib in
theorem Tryz.strings_LastIndex (s sub : ByteArray) (hs : s.size < 4611686018427387904) (w : World) :
    Calls Tryz.prog 219 #[.string s, .string sub] w fun e w' => e = .returned (.int .i64 (Lib.lastIndex s.data.toList sub.data.toList)) ∧ w' = w := Any.strings_LastIndex Tryz.lays148 s sub hs w
def Tryz.lays99_ren : Go.Shelf.Ren := ⟨fun | 99 => 116 | 206 => 166 | n => n, fun | 9 => 9 | 4 => 4 | 3 => 3 | n => n, fun | n => n⟩
theorem Tryz.lays99 : Go.Proofs.Lays.n99 Tryz.prog Tryz.lays99_ren := {
  mixed := by kernel_rfl
  f99 := Tryz.func116.trans (congrArg some (by kernel_rfl))
  f206 := Tryz.func166.trans (congrArg some (by kernel_rfl))
  t3 := Tryz.underlying3
  a3 := Tryz.isAgg3
  z3 := Tryz.sizeOf3
  v3 := Tryz.zeroValue3
  t4 := Tryz.underlying4
  a4 := Tryz.isAgg4
  z4 := Tryz.sizeOf4
  v4 := Tryz.zeroValue4
  t9 := Tryz.underlying9
  a9 := Tryz.isAgg9
  z9 := Tryz.sizeOf9
  v9 := Tryz.zeroValue9 }
open Go.RowKit Go.Lib in
theorem Tryz.strings_HasPrefix (s p : ByteArray) (w : World) :
    Calls Tryz.prog 116 #[.string s, .string p] w fun e w' => e = .returned (.bool (Lib.hasPrefix s.data.toList p.data.toList)) ∧ w' = w := Any.strings_HasPrefix Tryz.lays99 s p w
def Tryz.lays100_ren : Go.Shelf.Ren := ⟨fun | 100 => 147 | 207 => 199 | n => n, fun | 9 => 9 | 4 => 4 | 3 => 3 | n => n, fun | n => n⟩
theorem Tryz.lays100 : Go.Proofs.Lays.n100 Tryz.prog Tryz.lays100_ren := {
  mixed := by kernel_rfl
  f100 := Tryz.func147.trans (congrArg some (by kernel_rfl))
  f207 := Tryz.func199.trans (congrArg some (by kernel_rfl))
  t3 := Tryz.underlying3
  a3 := Tryz.isAgg3
  z3 := Tryz.sizeOf3
  v3 := Tryz.zeroValue3
  t4 := Tryz.underlying4
  a4 := Tryz.isAgg4
  z4 := Tryz.sizeOf4
  v4 := Tryz.zeroValue4
  t9 := Tryz.underlying9
  a9 := Tryz.isAgg9
  z9 := Tryz.sizeOf9
  v9 := Tryz.zeroValue9 }
open Go.RowKit Go.Lib in
theorem Tryz.strings_HasSuffix (s p : ByteArray) (w : World) (hs : s.size ≤ 9223372036854775807) :
    Calls Tryz.prog 147 #[.string s, .string p] w fun e w' => e = .returned (.bool (Lib.hasSuffix s.data.toList p.data.toList)) ∧ w' = w := Any.strings_HasSuffix Tryz.lays100 s p w hs
def Tryz.lays101_ren : Go.Shelf.Ren := ⟨fun | 101 => 190 | 208 => 223 | 206 => 166 | n => n, fun | 9 => 9 | 4 => 4 | 3 => 3 | n => n, fun | n => n⟩
theorem Tryz.lays101 : Go.Proofs.Lays.n101 Tryz.prog Tryz.lays101_ren := {
  mixed := by kernel_rfl
  f101 := Tryz.func190.trans (congrArg some (by kernel_rfl))
  f206 := Tryz.func166.trans (congrArg some (by kernel_rfl))
  f208 := Tryz.func223.trans (congrArg some (by kernel_rfl))
  t3 := Tryz.underlying3
  a3 := Tryz.isAgg3
  z3 := Tryz.sizeOf3
  v3 := Tryz.zeroValue3
  t4 := Tryz.underlying4
  a4 := Tryz.isAgg4
  z4 := Tryz.sizeOf4
  v4 := Tryz.zeroValue4
  t9 := Tryz.underlying9
  a9 := Tryz.isAgg9
  z9 := Tryz.sizeOf9
  v9 := Tryz.zeroValue9 }
open Go.RowKit Go.Lib in
theorem Tryz.strings_TrimPrefix (s p : ByteArray) (w : World) :
    Calls Tryz.prog 190 #[.string s, .string p] w fun e w' => e = .returned (.string ⟨(Lib.trimPrefix s.data.toList p.data.toList).toArray⟩) ∧ w' = w := Any.strings_TrimPrefix Tryz.lays101 s p w
def Tryz.lays146_ren : Go.Shelf.Ren := ⟨fun | 146 => 87 | 221 => 133 | 268 => 179 | 138 => 180 | 143 => 181 | 195 => 216 | 197 => 204 | 218 => 217 | 219 => 218 | 260 => 234 | 217 => 207 | 225 => 243 | 224 => 244 | 267 => 245 | 266 => 236 | 314 => 259 | n => n, fun | 9 => 9 | 31 => 61 | 3 => 3 | 4 => 4 | 0 => 0 | 105 => 225 | 21 => 21 | 5 => 5 | 46 => 179 | 119 => 184 | 139 => 262 | 138 => 261 | 146 => 214 | 51 => 213 | n => n, fun | 1 => 3 | 3 => 4 | 4 => 5 | n => n⟩
theorem Tryz.lays146 : Go.Proofs.Lays.n146 Tryz.prog Tryz.lays146_ren := {
  mixed := by kernel_rfl
  f138 := Tryz.func180.trans (congrArg some (by kernel_rfl))
  f143 := Tryz.func181.trans (congrArg some (by kernel_rfl))
  f146 := Tryz.func87.trans (congrArg some (by kernel_rfl))
  f195 := Tryz.func216.trans (congrArg some (by kernel_rfl))
  f197 := Tryz.func204.trans (congrArg some (by kernel_rfl))
  f217 := Tryz.func207.trans (congrArg some (by kernel_rfl))
  f218 := Tryz.func217.trans (congrArg some (by kernel_rfl))
  f219 := Tryz.func218.trans (congrArg some (by kernel_rfl))
  f221 := Tryz.func133.trans (congrArg some (by kernel_rfl))
  f224 := Tryz.func244.trans (congrArg some (by kernel_rfl))
  f225 := Tryz.func243.trans (congrArg some (by kernel_rfl))
  f260 := Tryz.func234.trans (congrArg some (by kernel_rfl))
  f266 := Tryz.func236.trans (congrArg some (by kernel_rfl))
  f267 := Tryz.func245.trans (congrArg some (by kernel_rfl))
  f268 := Tryz.func179.trans (congrArg some (by kernel_rfl))
  f314 := Tryz.func259.trans (congrArg some (by kernel_rfl))
  t0 := Tryz.underlying0
  a0 := Tryz.isAgg0
  z0 := Tryz.sizeOf0
  v0 := Tryz.zeroValue0
  t3 := Tryz.underlying3
  a3 := Tryz.isAgg3
  z3 := Tryz.sizeOf3
  v3 := Tryz.zeroValue3
  t4 := Tryz.underlying4
  a4 := Tryz.isAgg4
  z4 := Tryz.sizeOf4
  v4 := Tryz.zeroValue4
  t5 := Tryz.underlying5
  a5 := Tryz.isAgg5
  z5 := Tryz.sizeOf5
  v5 := Tryz.zeroValue5
  t9 := Tryz.underlying9
  a9 := Tryz.isAgg9
  z9 := Tryz.sizeOf9
  v9 := Tryz.zeroValue9
  t21 := Tryz.underlying21
  a21 := Tryz.isAgg21
  z21 := Tryz.sizeOf21
  v21 := Tryz.zeroValue21
  t31 := Tryz.underlying61
  a31 := Tryz.isAgg61
  z31 := Tryz.sizeOf61
  v31 := Tryz.zeroValue61
  t46 := Tryz.underlying179
  a46 := Tryz.isAgg179
  z46 := Tryz.sizeOf179
  v46 := Tryz.zeroValue179
  t51 := Tryz.underlying213
  a51 := Tryz.isAgg213
  z51 := Tryz.sizeOf213
  v51 := Tryz.zeroValue213
  t105 := Tryz.underlying225
  a105 := Tryz.isAgg225
  z105 := Tryz.sizeOf225
  v105 := Tryz.zeroValue225
  t119 := Tryz.underlying184
  a119 := Tryz.isAgg184
  z119 := Tryz.sizeOf184
  t138 := Tryz.underlying261
  a138 := Tryz.isAgg261
  z138 := Tryz.sizeOf261
  v138 := Tryz.zeroValue261
  t139 := Tryz.underlying262
  a139 := Tryz.isAgg262
  z139 := Tryz.sizeOf262
  v139 := Tryz.zeroValue262
  t146 := Tryz.underlying214
  a146 := Tryz.isAgg214
  z146 := Tryz.sizeOf214
  v146 := Tryz.zeroValue214
  g1 := by kernel_rfl
  g3 := by kernel_rfl
  g4 := by kernel_rfl }
open Go.RowKit Go.Lib in
theorem Tryz.strings_Split (s sep : ByteArray) (m : Int) (w : World) (hs : s.size < 4294967281) (hm : w.cell? ⟨3, 0, none⟩ = some (.int .i64 m)) (h1 : 1 ≤ sep.size) :
    Calls Tryz.prog 87 #[.string s, .string sep] w fun e w' =>
      e = .returned (.slice (some ⟨w.heap.size, 0, none⟩) (Lib.countB s sep + 1) (Lib.countB s sep + 1)) ∧ w' = w.alloc (.cells ((Lib.splitB sep 0 (Lib.countB s sep) s).map Value.string).toArray 9) := Any.strings_Split Tryz.lays146 (by kernel_rfl) s sep m w hs hm h1
def Tryz.laysM157_ren : Go.Shelf.Ren := ⟨fun | 157 => 106 | 229 => 152 | 199 => 153 | 261 => 200 | 311 => 229 | 312 => 230 | n => n, fun | 9 => 9 | 31 => 61 | 3 => 3 | 5 => 5 | 4 => 4 | 119 => 184 | 0 => 0 | 40 => 186 | 152 => 218 | 21 => 21 | 154 => 220 | 51 => 213 | 141 => 222 | 196 => 244 | 193 => 241 | 198 => 247 | 49 => 245 | 194 => 242 | 201 => 250 | 226 => 258 | 46 => 179 | 227 => 259 | n => n, fun | 0 => 0 | 6 => 1 | n => n⟩
theorem Tryz.laysM157 : Go.Proofs.LaysM.n157 Tryz.prog Tryz.laysM157_ren := {
  mixed := by kernel_rfl
  f157 := Tryz.func106.trans (congrArg some (by kernel_rfl))
  f199 := Tryz.func153.trans (congrArg some (by kernel_rfl))
  f229 := Tryz.func152.trans (congrArg some (by kernel_rfl))
  f261 := Tryz.func200.trans (congrArg some (by kernel_rfl))
  f311 := Tryz.func229.trans (congrArg some (by kernel_rfl))
  f312 := Tryz.func230.trans (congrArg some (by kernel_rfl))
  t0 := Tryz.underlying0
  a0 := Tryz.isAgg0
  z0 := Tryz.sizeOf0
  v0 := Tryz.zeroValue0
  t3 := Tryz.underlying3
  a3 := Tryz.isAgg3
  z3 := Tryz.sizeOf3
  v3 := Tryz.zeroValue3
  t4 := Tryz.underlying4
  a4 := Tryz.isAgg4
  z4 := Tryz.sizeOf4
  v4 := Tryz.zeroValue4
  t5 := Tryz.underlying5
  a5 := Tryz.isAgg5
  z5 := Tryz.sizeOf5
  v5 := Tryz.zeroValue5
  t9 := Tryz.underlying9
  a9 := Tryz.isAgg9
  z9 := Tryz.sizeOf9
  v9 := Tryz.zeroValue9
  t21 := Tryz.underlying21
  a21 := Tryz.isAgg21
  z21 := Tryz.sizeOf21
  v21 := Tryz.zeroValue21
  t31 := Tryz.underlying61
  a31 := Tryz.isAgg61
  z31 := Tryz.sizeOf61
  v31 := Tryz.zeroValue61
  t40 := Tryz.underlying186
  a40 := Tryz.isAgg186
  z40 := Tryz.sizeOf186
  v40 := Tryz.zeroValue186
  t46 := Tryz.underlying179
  a46 := Tryz.isAgg179
  z46 := Tryz.sizeOf179
  v46 := Tryz.zeroValue179
  t49 := Tryz.underlying245
  a49 := Tryz.isAgg245
  z49 := Tryz.sizeOf245
  v49 := Tryz.zeroValue245
  t51 := Tryz.underlying213
  a51 := Tryz.isAgg213
  z51 := Tryz.sizeOf213
  v51 := Tryz.zeroValue213
  t119 := Tryz.underlying184
  a119 := Tryz.isAgg184
  z119 := Tryz.sizeOf184
  t141 := Tryz.underlying222
  a141 := Tryz.isAgg222
  z141 := Tryz.sizeOf222
  v141 := Tryz.zeroValue222
  t152 := Tryz.underlying218
  a152 := Tryz.isAgg218
  z152 := Tryz.sizeOf218
  v152 := Tryz.zeroValue218
  t154 := Tryz.underlying220
  a154 := Tryz.isAgg220
  z154 := Tryz.sizeOf220
  v154 := Tryz.zeroValue220
  t193 := Tryz.underlying241
  a193 := Tryz.isAgg241
  z193 := Tryz.sizeOf241
  v193 := Tryz.zeroValue241
  t194 := Tryz.underlying242
  a194 := Tryz.isAgg242
  z194 := Tryz.sizeOf242
  v194 := Tryz.zeroValue242
  t196 := Tryz.underlying244
  a196 := Tryz.isAgg244
  z196 := Tryz.sizeOf244
  v196 := Tryz.zeroValue244
  t198 := Tryz.underlying247
  a198 := Tryz.isAgg247
  z198 := Tryz.sizeOf247
  v198 := Tryz.zeroValue247
  t201 := Tryz.underlying250
  a201 := Tryz.isAgg250
  z201 := Tryz.sizeOf250
  v201 := Tryz.zeroValue250
  t226 := Tryz.underlying258
  a226 := Tryz.isAgg258
  z226 := Tryz.sizeOf258
  v226 := Tryz.zeroValue258
  t227 := Tryz.underlying259
  a227 := Tryz.isAgg259
  z227 := Tryz.sizeOf259
  v227 := Tryz.zeroValue259
  g0 := by kernel_rfl
  g6 := by kernel_rfl
  i0 := by kernel_rfl
  i3 := by kernel_rfl
  i4 := by kernel_rfl
  i5 := by kernel_rfl
  i9 := by kernel_rfl
  i21 := by kernel_rfl
  i31 := by kernel_rfl
  i40 := by kernel_rfl
  i46 := by kernel_rfl
  i49 := by kernel_rfl
  i51 := by kernel_rfl
  i141 := by kernel_rfl
  i152 := by kernel_rfl
  i154 := by kernel_rfl
  i193 := by kernel_rfl
  i194 := by kernel_rfl
  i196 := by kernel_rfl
  i198 := by kernel_rfl
  i201 := by kernel_rfl
  i226 := by kernel_rfl
  i227 := by kernel_rfl
  m0 := by kernel_rfl
  m6 := by kernel_rfl }
open Go.RowKit Go.Lib in
theorem Tryz.strings_Fields_laid (s : ByteArray) (w : World) (hs : s.size < 4294967281) (hascii : ∀ (j : Nat) b, s.data.toList[j]? = some b → b.toNat < 128) (htab : Lib.TabIs Tryz.prog w "strings.asciiSpace" .u8 Lib.asciiSpaceTab) :
    Calls Tryz.prog 106 #[.string s] w fun e w' =>
      e = .returned (.slice (some ⟨w.heap.size, 0, none⟩) (Lib.fields s.data.toList).length (Lib.fields s.data.toList).length) ∧ w' = w.alloc (.cells ((Lib.fields s.data.toList).map fun l => Value.string ⟨l.toArray⟩).toArray 9) := Any.strings_Fields_laid Tryz.laysM157 s w hs hascii htab
def Tryz.lays150_ren : Go.Shelf.Ren := ⟨fun | 150 => 156 | 153 => 202 | 152 => 232 | 226 => 233 | 227 => 159 | 228 => 203 | 137 => 164 | 119 => 250 | 224 => 244 | 225 => 243 | 217 => 207 | 266 => 236 | n => n, fun | 9 => 9 | 4 => 4 | 3 => 3 | 5 => 5 | 21 => 21 | 117 => 190 | 116 => 189 | 0 => 0 | 46 => 179 | 124 => 193 | n => n, fun | n => n⟩
theorem Tryz.lays150 : Go.Proofs.Lays.n150 Tryz.prog Tryz.lays150_ren := {
  mixed := by kernel_rfl
  f119 := Tryz.func250.trans (congrArg some (by kernel_rfl))
  f137 := Tryz.func164.trans (congrArg some (by kernel_rfl))
  f150 := Tryz.func156.trans (congrArg some (by kernel_rfl))
  f152 := Tryz.func232.trans (congrArg some (by kernel_rfl))
  f153 := Tryz.func202.trans (congrArg some (by kernel_rfl))
  f217 := Tryz.func207.trans (congrArg some (by kernel_rfl))
  f224 := Tryz.func244.trans (congrArg some (by kernel_rfl))
  f225 := Tryz.func243.trans (congrArg some (by kernel_rfl))
  f226 := Tryz.func233.trans (congrArg some (by kernel_rfl))
  f227 := Tryz.func159.trans (congrArg some (by kernel_rfl))
  f228 := Tryz.func203.trans (congrArg some (by kernel_rfl))
  f266 := Tryz.func236.trans (congrArg some (by kernel_rfl))
  t0 := Tryz.underlying0
  a0 := Tryz.isAgg0
  z0 := Tryz.sizeOf0
  v0 := Tryz.zeroValue0
  t3 := Tryz.underlying3
  a3 := Tryz.isAgg3
  z3 := Tryz.sizeOf3
  v3 := Tryz.zeroValue3
  t4 := Tryz.underlying4
  a4 := Tryz.isAgg4
  z4 := Tryz.sizeOf4
  v4 := Tryz.zeroValue4
  t5 := Tryz.underlying5
  a5 := Tryz.isAgg5
  z5 := Tryz.sizeOf5
  v5 := Tryz.zeroValue5
  t9 := Tryz.underlying9
  a9 := Tryz.isAgg9
  z9 := Tryz.sizeOf9
  v9 := Tryz.zeroValue9
  t21 := Tryz.underlying21
  a21 := Tryz.isAgg21
  z21 := Tryz.sizeOf21
  v21 := Tryz.zeroValue21
  t46 := Tryz.underlying179
  a46 := Tryz.isAgg179
  z46 := Tryz.sizeOf179
  v46 := Tryz.zeroValue179
  t116 := Tryz.underlying189
  a116 := Tryz.isAgg189
  z116 := Tryz.sizeOf189
  t117 := Tryz.underlying190
  a117 := Tryz.isAgg190
  z117 := Tryz.sizeOf190
  v117 := Tryz.zeroValue190
  t124 := Tryz.underlying193
  a124 := Tryz.isAgg193
  z124 := Tryz.sizeOf193
  v124 := Tryz.zeroValue193 }
open Go.RowKit Go.Lib in
theorem Tryz.strings_ContainsAny_laid (s chars : ByteArray) (w : World) (hs : s.size < 4294967281) (hcs : chars.size < 4294967281) (has : ∀ (j : Nat) b, s.data.toList[j]? = some b → b.toNat < 128) (hac : ∀ (j : Nat) b, chars.data.toList[j]? = some b → b.toNat < 128) :
    Calls Tryz.prog 156 #[.string s, .string chars] w fun e w' => e = .returned (.bool (Lib.containsAny s.data.toList chars.data.toList)) ∧ Below w.heap.size w w' := Any.strings_ContainsAny_laid Tryz.lays150 (by kernel_rfl) s chars w hs hcs has hac
open Go.RowKit Go.Lib in
theorem Tryz.strings_Split_chars (s sep : ByteArray) (w : World) (h0 : sep.size = 0) (hs : s.size < 4294967281) (hascii : ∀ (j : Nat) b, s.data.toList[j]? = some b → b.toNat < 128) :
    Calls Tryz.prog 87 #[.string s, .string sep] w fun e w' =>
      e = .returned (.slice (some ⟨(w.iter s s.size).heap.size, 0, none⟩) s.size s.size) ∧ w' = (w.iter s s.size).alloc (.cells ((Lib.charsB s).map Value.string).toArray 9) := Any.strings_Split_chars Tryz.lays146 (by kernel_rfl) s sep w h0 hs hascii
def Tryz.lays105_ren : Go.Shelf.Ren := ⟨fun | 105 => 97 | 212 => 145 | 99 => 116 | 165 => 132 | 166 => 117 | 170 => 146 | 169 => 119 | 263 => 197 | 264 => 198 | 206 => 166 | 240 => 167 | 241 => 178 | 276 => 208 | 277 => 215 | n => n, fun | 9 => 9 | 3 => 3 | 4 => 4 | 20 => 20 | 0 => 0 | 46 => 179 | 109 => 180 | 5 => 5 | 72 => 148 | 76 => 151 | 51 => 213 | 146 => 214 | 53 => 208 | 148 => 216 | 70 => 146 | 37 => 140 | 75 => 150 | 127 => 196 | 164 => 228 | 80 => 48 | n => n, fun | n => n⟩
theorem Tryz.lays105 : Go.Proofs.Lays.n105 Tryz.prog Tryz.lays105_ren := {
  mixed := by kernel_rfl
  f99 := Tryz.func116.trans (congrArg some (by kernel_rfl))
  f105 := Tryz.func97.trans (congrArg some (by kernel_rfl))
  f165 := Tryz.func132.trans (congrArg some (by kernel_rfl))
  f166 := Tryz.func117.trans (congrArg some (by kernel_rfl))
  f169 := Tryz.func119.trans (congrArg some (by kernel_rfl))
  f170 := Tryz.func146.trans (congrArg some (by kernel_rfl))
  f206 := Tryz.func166.trans (congrArg some (by kernel_rfl))
  f212 := Tryz.func145.trans (congrArg some (by kernel_rfl))
  f240 := Tryz.func167.trans (congrArg some (by kernel_rfl))
  f241 := Tryz.func178.trans (congrArg some (by kernel_rfl))
  f263 := Tryz.func197.trans (congrArg some (by kernel_rfl))
  f264 := Tryz.func198.trans (congrArg some (by kernel_rfl))
  f276 := Tryz.func208.trans (congrArg some (by kernel_rfl))
  f277 := Tryz.func215.trans (congrArg some (by kernel_rfl))
  t0 := Tryz.underlying0
  a0 := Tryz.isAgg0
  z0 := Tryz.sizeOf0
  v0 := Tryz.zeroValue0
  t3 := Tryz.underlying3
  a3 := Tryz.isAgg3
  z3 := Tryz.sizeOf3
  v3 := Tryz.zeroValue3
  t4 := Tryz.underlying4
  a4 := Tryz.isAgg4
  z4 := Tryz.sizeOf4
  v4 := Tryz.zeroValue4
  t5 := Tryz.underlying5
  a5 := Tryz.isAgg5
  z5 := Tryz.sizeOf5
  v5 := Tryz.zeroValue5
  t9 := Tryz.underlying9
  a9 := Tryz.isAgg9
  z9 := Tryz.sizeOf9
  v9 := Tryz.zeroValue9
  t20 := Tryz.underlying20
  a20 := Tryz.isAgg20
  z20 := Tryz.sizeOf20
  v20 := Tryz.zeroValue20
  t37 := Tryz.underlying140
  a37 := Tryz.isAgg140
  z37 := Tryz.sizeOf140
  v37 := Tryz.zeroValue140
  t46 := Tryz.underlying179
  a46 := Tryz.isAgg179
  z46 := Tryz.sizeOf179
  v46 := Tryz.zeroValue179
  t51 := Tryz.underlying213
  a51 := Tryz.isAgg213
  z51 := Tryz.sizeOf213
  v51 := Tryz.zeroValue213
  t53 := Tryz.underlying208
  a53 := Tryz.isAgg208
  z53 := Tryz.sizeOf208
  v53 := Tryz.zeroValue208
  t70 := Tryz.underlying146
  a70 := Tryz.isAgg146
  z70 := Tryz.sizeOf146
  v70 := Tryz.zeroValue146
  t72 := Tryz.underlying148
  a72 := Tryz.isAgg148
  z72 := Tryz.sizeOf148
  v72 := Tryz.zeroValue148
  t75 := Tryz.underlying150
  a75 := Tryz.isAgg150
  z75 := Tryz.sizeOf150
  v75 := Tryz.zeroValue150
  t76 := Tryz.underlying151
  a76 := Tryz.isAgg151
  z76 := Tryz.sizeOf151
  v76 := Tryz.zeroValue151
  t109 := Tryz.underlying180
  a109 := Tryz.isAgg180
  z109 := Tryz.sizeOf180
  v109 := Tryz.zeroValue180
  t127 := Tryz.underlying196
  a127 := Tryz.isAgg196
  z127 := Tryz.sizeOf196
  v127 := Tryz.zeroValue196
  t146 := Tryz.underlying214
  a146 := Tryz.isAgg214
  z146 := Tryz.sizeOf214
  v146 := Tryz.zeroValue214
  t148 := Tryz.underlying216
  a148 := Tryz.isAgg216
  z148 := Tryz.sizeOf216
  v148 := Tryz.zeroValue216
  t164 := Tryz.underlying228
  a164 := Tryz.isAgg228
  z164 := Tryz.sizeOf228
  v164 := Tryz.zeroValue228 }
theorem Tryz.Builder_Extra_105 : Builder.Extra Tryz.prog Tryz.lays105_ren := {
  sizeBuilder := by kernel_rfl
  liesBuilder := by kernel_rfl
  t5 := Tryz.underlying5
  a5 := Tryz.isAgg5
  z5 := Tryz.sizeOf5
  v5 := Tryz.zeroValue5
  infoByte := by kernel_rfl
  cellsByte := by kernel_rfl
  sizeByte := by kernel_rfl
  neB5 := by decide }
open Go.RowKit Go.Lib in
theorem Tryz.strings_Repeat (s : ByteArray) (c : Nat) (w : World) (hc : c ≤ 9223372036854775807) (hlen : s.size * c ≤ 140737488355328) :
    Calls Tryz.prog 97 #[.string s, .int .i64 c] w fun e w' => e = .returned (.string ⟨(Lib.repeatL s.data.toList c).toArray⟩) ∧ Below w.heap.size w w' := Any.strings_Repeat Tryz.lays105 Tryz.Builder_Extra_105 s c w hc hlen
def Tryz.lays229_ren : Go.Shelf.Ren := ⟨fun | 229 => 152 | n => n, fun | 9 => 9 | 40 => 186 | 31 => 61 | 152 => 218 | 3 => 3 | 0 => 0 | 4 => 4 | 21 => 21 | 154 => 220 | n => n, fun | n => n⟩
theorem Tryz.lays229 : Go.Proofs.Lays.n229 Tryz.prog Tryz.lays229_ren := {
  mixed := by kernel_rfl
  f229 := Tryz.func152.trans (congrArg some (by kernel_rfl))
  t0 := Tryz.underlying0
  a0 := Tryz.isAgg0
  z0 := Tryz.sizeOf0
  v0 := Tryz.zeroValue0
  t3 := Tryz.underlying3
  a3 := Tryz.isAgg3
  z3 := Tryz.sizeOf3
  v3 := Tryz.zeroValue3
  t4 := Tryz.underlying4
  a4 := Tryz.isAgg4
  z4 := Tryz.sizeOf4
  v4 := Tryz.zeroValue4
  t9 := Tryz.underlying9
  a9 := Tryz.isAgg9
  z9 := Tryz.sizeOf9
  v9 := Tryz.zeroValue9
  t21 := Tryz.underlying21
  a21 := Tryz.isAgg21
  z21 := Tryz.sizeOf21
  v21 := Tryz.zeroValue21
  t31 := Tryz.underlying61
  a31 := Tryz.isAgg61
  z31 := Tryz.sizeOf61
  v31 := Tryz.zeroValue61
  t40 := Tryz.underlying186
  a40 := Tryz.isAgg186
  z40 := Tryz.sizeOf186
  v40 := Tryz.zeroValue186
  t152 := Tryz.underlying218
  a152 := Tryz.isAgg218
  z152 := Tryz.sizeOf218
  v152 := Tryz.zeroValue218
  t154 := Tryz.underlying220
  a154 := Tryz.isAgg220
  z154 := Tryz.sizeOf220
  v154 := Tryz.zeroValue220 }
open Go.RowKit Go.Lib in
theorem Tryz.strings_FieldsFunc_grows (g : Nat) (lb : Array Value) (eg : ∀ args w, (callFunc g args).run Tryz.prog w = .ok (.enter g args) w) (p : Nat → Bool) (s : ByteArray) (w : World) (hs : s.size ≤ 4294967296) (hp : PredGrows Tryz.prog g lb p w) :
    Calls Tryz.prog 152 #[.string s, .func (.func g) #[] lb] w fun e w' => ∃ A, e = .returned (.slice (some ⟨A, 0, none⟩) (Lib.goFieldsP p s).length (Lib.goFieldsP p s).length) ∧ w.heap.size ≤ A ∧
      w'.ownsRow w.heap.size 9 1 (.slice (some ⟨A, 0, none⟩) (Lib.goFieldsP p s).length (Lib.goFieldsP p s).length) (Lib.goFieldsP p s).length ((Lib.goFieldsP p s).map Value.string) ∧ Below w.heap.size w w' := Any.strings_FieldsFunc_grows Tryz.lays229 g lb eg p s w hs hp (by kernel_rfl) (by kernel_rfl)
def Tryz.lays109_ren : Go.Shelf.Ren := ⟨fun | 109 => 220 | n => n, fun | 31 => 61 | 9 => 9 | 3 => 3 | 0 => 0 | 4 => 4 | n => n, fun | n => n⟩
theorem Tryz.lays109 : Go.Proofs.Lays.n109 Tryz.prog Tryz.lays109_ren := {
  mixed := by kernel_rfl
  f109 := Tryz.func220.trans (congrArg some (by kernel_rfl))
  t0 := Tryz.underlying0
  a0 := Tryz.isAgg0
  z0 := Tryz.sizeOf0
  v0 := Tryz.zeroValue0
  t3 := Tryz.underlying3
  a3 := Tryz.isAgg3
  z3 := Tryz.sizeOf3
  v3 := Tryz.zeroValue3
  t4 := Tryz.underlying4
  a4 := Tryz.isAgg4
  z4 := Tryz.sizeOf4
  v4 := Tryz.zeroValue4
  t9 := Tryz.underlying9
  a9 := Tryz.isAgg9
  z9 := Tryz.sizeOf9
  v9 := Tryz.zeroValue9
  t31 := Tryz.underlying61
  a31 := Tryz.isAgg61
  z31 := Tryz.sizeOf61
  v31 := Tryz.zeroValue61 }
open Go.Lib in
theorem Tryz.slices_Index_string (b off n c : Nat) (zs : List ByteArray) (x : ByteArray) (w : World) (hz : n ≤ zs.length) (hbig : n ≤ 9223372036854775807) (hc : ∀ j, j < zs.length → w.cell? ⟨b, off + j, none⟩ = some (.string (zs.getD j ByteArray.empty))) :
    Calls Tryz.prog 220 #[.slice (some ⟨b, off, none⟩) n c, .string x] w fun e w' => e = .returned (.int .i64 (Lib.idxOfS (zs.take n) x)) ∧ w' = w := Any.slices_Index_string Tryz.lays109 b off n c zs x w hz hbig hc
open Go.Lib in
theorem Tryz.slices_Index_string_empty (a : Option Addr) (c : Nat) (x : ByteArray) (w : World) :
    Calls Tryz.prog 220 #[.slice a 0 c, .string x] w fun e w' => e = .returned (.int .i64 (Lib.idxOfS [] x)) ∧ w' = w := Any.slices_Index_string_empty Tryz.lays109 a c x w
def Tryz.lays110_ren : Go.Shelf.Ren := ⟨fun | 110 => 189 | 109 => 220 | n => n, fun | 31 => 61 | 9 => 9 | 4 => 4 | 3 => 3 | 0 => 0 | n => n, fun | n => n⟩
theorem Tryz.lays110 : Go.Proofs.Lays.n110 Tryz.prog Tryz.lays110_ren := {
  mixed := by kernel_rfl
  f109 := Tryz.func220.trans (congrArg some (by kernel_rfl))
  f110 := Tryz.func189.trans (congrArg some (by kernel_rfl))
  t0 := Tryz.underlying0
  a0 := Tryz.isAgg0
  z0 := Tryz.sizeOf0
  v0 := Tryz.zeroValue0
  t3 := Tryz.underlying3
  a3 := Tryz.isAgg3
  z3 := Tryz.sizeOf3
  v3 := Tryz.zeroValue3
  t4 := Tryz.underlying4
  a4 := Tryz.isAgg4
  z4 := Tryz.sizeOf4
  v4 := Tryz.zeroValue4
  t9 := Tryz.underlying9
  a9 := Tryz.isAgg9
  z9 := Tryz.sizeOf9
  v9 := Tryz.zeroValue9
  t31 := Tryz.underlying61
  a31 := Tryz.isAgg61
  z31 := Tryz.sizeOf61
  v31 := Tryz.zeroValue61 }
open Go.Lib in
theorem Tryz.slices_Contains_string (b off n c : Nat) (zs : List ByteArray) (x : ByteArray) (w : World) (hz : n ≤ zs.length) (hbig : n ≤ 9223372036854775807) (hc : ∀ j, j < zs.length → w.cell? ⟨b, off + j, none⟩ = some (.string (zs.getD j ByteArray.empty))) :
    Calls Tryz.prog 189 #[.slice (some ⟨b, off, none⟩) n c, .string x] w fun e w' => e = .returned (.bool (Lib.containsS (zs.take n) x)) ∧ w' = w := Any.slices_Contains_string Tryz.lays110 b off n c zs x w hz hbig hc
open Go.Lib in
theorem Tryz.slices_Contains_string_empty (a : Option Addr) (c : Nat) (x : ByteArray) (w : World) :
    Calls Tryz.prog 189 #[.slice a 0 c, .string x] w fun e w' => e = .returned (.bool false) ∧ w' = w := Any.slices_Contains_string_empty Tryz.lays110 a c x w
end Go.Proofs

