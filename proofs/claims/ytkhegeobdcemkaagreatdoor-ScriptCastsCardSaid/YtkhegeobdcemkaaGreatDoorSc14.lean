/- Texts packed: RefD, EvX, EvN, EvT, EvE, TpS. -/
import Derived.Test.YtkhegeobdcemkaaGreatDoorRows
import Derived.Test.YtkhegeobdcemkaaGreatDoorSc13
import Derived.Test.YtkhegeobdcemkaaGreatDoorSc10
import Derived.Test.YtkhegeobdcemkaaGreatDoorSc03
import Derived.Test.YtkhegeobdcemkaaGreatDoorSc01
import Derived.Lib.ItoaLen
/- The reference's look-up of a roll, and its Sync. -/
namespace Go.Proofs.YtkhegeobdcemkaaGreatDoor
set_option linter.unusedVariables false
open Go.RowKit

theorem findIdx_congr {α : Type} {p q : α → Bool} {l : List α} (h : ∀ x ∈ l, p x = q x) : l.findIdx? p = l.findIdx? q := by
  induction l with
  | nil => rfl
  | cons y l ih => rw [List.findIdx?_cons, List.findIdx?_cons, h y (by simp), ih (fun x hx => h x (by simp [hx]))]

theorem rollIdx_ref {l : List Roll} (h : ∀ r ∈ l, rollNameB r.name = true) (s : ByteArray) : l.findIdx? (fun y => decide (y.name = s) && !s.toList.isEmpty) = rollIdx l s := by
  refine findIdx_congr fun x hx => ?_
  have h1 := h x hx
  by_cases hs : x.name = s
  · subst hs
    have : x.name.toList.isEmpty = false := by
      rw [ByteArray.toList_eq]
      simp only [rollNameB, Bool.and_eq_true, decide_eq_true_eq] at h1
      cases hn : x.name.data.toList with
      | nil =>
        have : x.name.size = 0 := by show x.name.data.size = 0; rw [← Array.length_toList, hn]; rfl
        omega
      | cons y t => rfl
    simp [this]
  · simp [hs]

def insB (start last x : Int) : Bool := decide (start ≤ x) && decide (x ≤ last)
end Go.Proofs.YtkhegeobdcemkaaGreatDoor

/- The reference's error of events, walked. -/
namespace Go.Proofs.YtkhegeobdcemkaaGreatDoor
set_option linter.unusedVariables false
open Go.RowKit

theorem rollNames {l : List Roll} (h0 : rollsFault l = 0) : ∀ r ∈ l, rollNameB r.name = true := fun r hr => (rollsFault_ok l h0 r hr).2.2
theorem rateK_end (l : List Roll) (es : List Ev) : rateK l es es.length = evRate l es := by
  unfold rateK
  cases es with
  | nil => rfl
  | cons x r => rw [if_neg (by simp)]
end Go.Proofs.YtkhegeobdcemkaaGreatDoor

/- The program's numbers of three figures; the reference's joined lines. -/
namespace Go.Proofs.YtkhegeobdcemkaaGreatDoor
set_option linter.unusedVariables false
open Go.RowKit

theorem itoaS_size (n : Int) : (⟨(Lib.itoa n).toArray⟩ : ByteArray).size = (Lib.itoa n).length := rfl
theorem num3_of {n : Int} {c : Nat} (h : 3 - (Lib.itoa n).length = c) : (⟨(Lib.repeatL [48] c).toArray⟩ ++ ⟨(Lib.itoa n).toArray⟩ : ByteArray) = num3 n := by
  unfold num3
  rw [h]
  apply ByteArray.ext
  simp
theorem num3_size (n : Int) (hn : okI n) : (num3 n).size ≤ 25 := by
  have h := Lib.itoa_length_le n hn.1 hn.2
  show ((Lib.repeatL [48] (3 - (Lib.itoa n).length) ++ Lib.itoa n).toArray).size ≤ 25
  rw [List.size_toArray, List.length_append, Lib.repeatL_length]
  simp; omega

/-- Lines, each with its end. -/
def linesL (l : List ByteArray) : List UInt8 := (l.map fun s => s.data.toList ++ [10]).flatten
theorem linesL_snoc (l : List ByteArray) (s : ByteArray) : linesL (l ++ [s]) = linesL l ++ (s.data.toList ++ [10]) := by simp [linesL]
theorem linesL_take (l : List ByteArray) (k : Nat) (hk : k < l.length) : linesL (l.take (k + 1)) = linesL (l.take k) ++ (l[k].data.toList ++ [10]) := by rw [List.take_succ_eq_append_getElem hk, linesL_snoc]
theorem linesL_le (l : List ByteArray) (k : Nat) : (linesL (l.take k)).length ≤ (linesL l).length := by
  have : linesL l = linesL (l.take k) ++ linesL (l.drop k) := by
    unfold linesL
    rw [← List.flatten_append, ← List.map_append, List.take_append_drop]
  rw [this, List.length_append]; omega

set_option maxHeartbeats 1600000 in
theorem Joined_c (l : List ByteArray) (v : Value) (F : Nat → Prop) (w : World) (hv : Sli strR w F l v) (hF : ∀ b, F b → b < w.heap.size) (hlen : (linesL l).length ≤ 140737488355328) :
    Calls Tryz.prog 92 #[v] w fun e w' => e = .returned (.string ⟨(linesL l).toArray⟩) ∧ Below w.heap.size w w' := by
  obtain ⟨A, c, rfl, hlc, hcm⟩ := hv.form
  have HV := Lib.hid hv; clear hv
  have HF := Lib.hid hF; clear hF
  go_enter Tryz.func92, Tryz.ntmps92
  go_wp2
  go_loopw [9] (fun i wr => ∃ k : Nat, k ≤ l.length ∧ i = .int .i64 k ∧ Below w.heap.size w wr ∧ w.heap.size < wr.heap.size ∧ Hid (Bld wr w.heap.size (linesL (l.take k)))) (fun i _ => l.length - (intOf i).toNat)
  case atStart => exact ⟨0, Nat.zero_le _, rfl, (Below.refl _ _).alloc (Nat.le_refl _) _, by simp, Bld.new w⟩
  case round =>
    obtain ⟨k, hk, rfl, hb, hz, HB⟩ := hrel
    by_cases hlt : k < l.length
    · obtain ⟨b, off, rfl, hfb, c0⟩ := strAt (HV.out.below hb HF.out) k hlt
      have HS := Lib.hid (linesL_take l k hlt)
      have h1 := linesL_le l (k + 1)
      rw [HS.out] at h1
      have h2 : (linesL (l.take k)).length + (l[k] ++ ⟨#[10]⟩ : ByteArray).size ≤ 140737488355328 := by
        rw [ByteArray.size_append]
        rw [List.length_append, List.length_append] at h1
        have e1 : l[k].data.toList.length = l[k].size := by simp
        rw [e1] at h1
        have e2 : (⟨#[10]⟩ : ByteArray).size = 1 := rfl
        have e3 : ([10] : List UInt8).length = 1 := rfl
        omega
      have HD := Lib.hid (show (l[k] ++ ⟨#[10]⟩ : ByteArray).data.toList = l[k].data.toList ++ [10] by simp)
      clear h1
      generalize l[k] = x at *
      have hxs : x.size ≤ 140737488355328 := by rw [ByteArray.size_append] at h2; omega
      have HBB := Lib.hid hb
      go_wp2_with fail
      refine (write_c w.heap.size _ _ _ HB.out h2).mono ?_
      rintro e w1 ⟨rfl, hb1, hb2⟩
      have HB1 := Lib.hid (HBB.out.trans hb2)
      rw [HD.out] at hb1
      have HX := Lib.hid hb1
      have hz1 := hb2.size
      clear hb1 hb2 h2
      go_wp2
      go_roundw
      case rel => exact ⟨k + 1, by omega, intNum, HB1.out, by omega, by rw [HS.out]; exact HX.out⟩
      case measure => simp [intOf]; omega
    · rw [List.take_of_length_le (by omega)] at HB
      have HBB := Lib.hid hb
      go_wp2_with fail
      refine (text_c w.heap.size _ _ HB.out).mono ?_
      rintro e w1 ⟨rfl, hb1⟩
      have HB1 := Lib.hid (HBB.out.trans hb1)
      clear hb1
      generalize hq : linesL l = q at *
      have HQ := Lib.hid hq
      have hqs : (⟨q.toArray⟩ : ByteArray).size ≤ 140737488355328 := by show q.toArray.size ≤ _; simpa using hlen
      clear hq
      generalize hY : (⟨q.toArray⟩ : ByteArray) = Y at hqs ⊢
      have HY := Lib.hid hY
      clear hY
      go_wp2
      go_ret
      exact ⟨ret_str (by rw [HQ.out, HY.out]; exact ByteArray.ext (by simp)), HB1.out⟩
end Go.Proofs.YtkhegeobdcemkaaGreatDoor

/- Texts of events: their sizes. No program in sight. -/
namespace Go.Proofs.YtkhegeobdcemkaaGreatDoor
set_option linter.unusedVariables false
open Go.RowKit

theorem evSum_app (a b : List Ev) : evSum (a ++ b) = evSum a + evSum b := by
  induction a with
  | nil => simp [evSum]
  | cons y l ih => rw [List.cons_append, evSum, ih, evSum]; omega
theorem evSum_le {rolls : List Roll} {q : Int} (hR : rollsFault rolls = 0) {l : List Ev} (h : ∀ x ∈ l, evF rolls q x = 0) (k : Nat) (hk : k < l.length) : evSum (l.take k) + (l[k].tout - l[k].tin) ≤ evSum l := by
  have h1 := evSum_take l k hk
  have h2 : evSum l = evSum (l.take (k + 1)) + evSum (l.drop (k + 1)) := by rw [← evSum_app, List.take_append_drop]
  have h3 := (evSum_bd (rolls := rolls) (rate := q) hR (l.drop (k + 1)) (fun x hx => h x (List.mem_of_mem_drop hx))).1
  omega
theorem lineL6 (a b c d e f : ByteArray) : (lineL [a, b, c, d, e, f]).length = a.size + b.size + c.size + d.size + e.size + f.size + 5 := by
  simp [lineL, Lib.join, List.intercalate]
  omega
theorem evLine_le (rolls : List Roll) (i at_ : Int) (x : Ev) (hi : okI i) (hx : x.roll.size ≤ 1000) : (lineL (evLine rolls i at_ x)).length ≤ 1080 := by
  unfold evLine
  rw [lineL6, codeS_len, codeS_len, codeS_len, codeS_len]
  have := num3_size i hi
  omega
theorem evText_le (rolls : List Roll) (es : List Ev) (h : ∀ x ∈ es, x.roll.size ≤ 1000) : ∀ (i a : Int), 0 ≤ i → i + (es.length : Int) ≤ 1000000 → (evText rolls i a es).length ≤ 1100 * es.length := by
  induction es with
  | nil => intro i a _ _; simp [evText]
  | cons x r ih =>
    intro i a h0 h1
    rw [List.length_cons] at h1
    have h2 := evLine_le rolls i a x ⟨by omega, by omega⟩ (h x (by simp))
    have h3 := ih (fun y hy => h y (by simp [hy])) (i + 1) (a + (x.tout - x.tin)) (by omega) (by omega)
    rw [evText, List.length_append, List.length_append, List.length_cons]
    simp only [List.length_cons, List.length_nil]
    omega
theorem evText_step (rolls : List Roll) (es : List Ev) (k : Nat) (hk : k < es.length) :
    evText rolls 1 0 (es.take (k + 1)) = evText rolls 1 0 (es.take k) ++ (lineL (evLine rolls ((k : Int) + 1) (evSum (es.take k)) es[k]) ++ [10]) := by
  rw [List.take_succ_eq_append_getElem hk, evText_snoc, List.length_take, Nat.min_eq_left (by omega), Int.zero_add, Int.add_comm 1]
/-- The text, if the events are right. -/
def evOut (rolls : List Roll) (es : List Ev) : ByteArray := if evErrA rolls es = 0 then ⟨(evText rolls 1 0 es).toArray⟩ else ⟨#[]⟩
theorem erA0 {rolls : List Roll} {es : List Ev} (h : evErrA rolls es = 0) : rollsFault rolls = 0 := by
  unfold evErrA at h
  by_cases h0 : rollsFault rolls = 0
  · exact h0
  · rw [if_pos h0] at h; exact absurd h h0
/-- What right events are. -/
theorem evErrA_ok {rolls : List Roll} {es : List Ev} (h : evErrA rolls es = 0) : rollsFault rolls = 0 ∧ es.length ≤ 999 ∧ (∀ x ∈ es, evF rolls (evRate rolls es) x = 0) ∧ evSum es ≤ framesN (evRate rolls es) := by
  unfold evErrA at h
  by_cases h0 : rollsFault rolls = 0
  · rw [if_neg (by rw [h0]; simp)] at h
    unfold evErr at h
    by_cases h1 : 999 < es.length
    · rw [if_pos h1] at h; omega
    · rw [if_neg h1] at h
      by_cases h2 : firstE (evF rolls (evRate rolls es)) es = 0
      · rw [if_neg (by rw [h2]; simp)] at h
        by_cases h3 : framesN (evRate rolls es) < evSum es
        · rw [if_pos h3] at h; omega
        · exact ⟨h0, by omega, firstE_zero h2, by omega⟩
      · rw [if_pos h2] at h; exact absurd h h2
  · rw [if_pos h0] at h; exact absurd h h0
/-- What the printing of event k needs. -/
theorem ev_print {rolls : List Roll} {es : List Ev} (h : evErrA rolls es = 0) (k : Nat) (hk : k < es.length) :
    ∃ q, rollHas rolls es[k].roll = true ∧ (rollGet rolls es[k].roll).rate = q ∧ isRateB q = true ∧ framesN q ≤ 2592000 ∧ 0 ≤ es[k].tin ∧ es[k].tin < framesN q ∧ 0 ≤ es[k].tout - 1 ∧ es[k].tout - 1 < framesN q ∧ es[k].tin < es[k].tout ∧ 0 ≤ evSum (es.take k) ∧ evSum (es.take k) < framesN q ∧ 0 ≤ evSum (es.take k) + (es[k].tout - es[k].tin) - 1 ∧ evSum (es.take k) + (es[k].tout - es[k].tin) - 1 < framesN q := by
  obtain ⟨h0, h1, h2, h3⟩ := evErrA_ok h
  obtain ⟨a1, a2, a3, a4, a5, a6⟩ := evF_ok h0 (h2 es[k] (List.getElem_mem hk))
  have b1 := evSum_le h0 h2 k hk
  have b2 := (evSum_bd h0 (es.take k) (fun x hx => h2 x (List.mem_of_mem_take hx))).1
  have b3 := (frames_bd a3).2
  exact ⟨_, a1, a2, a3, b3, a4, by omega, by omega, by omega, a5, b2, by omega, by omega, by omega⟩
end Go.Proofs.YtkhegeobdcemkaaGreatDoor

/- Lists of events compared; lines cut into words. -/
namespace Go.Proofs.YtkhegeobdcemkaaGreatDoor
set_option linter.unusedVariables false
open Go.RowKit

instance : DecidableEq Ev := fun a b => decidable_of_iff (a.eqB b = true) Ev.eqB_iff
/-- The library's word for the longest text that its search by heart serves lies where it was laid. -/
def MaxLaid (w : World) : Prop := (∃ m, w.cell? ⟨3, 0, none⟩ = some (.int .i64 m)) ∧ 3 < w.heap.size
theorem max_below {w w' : World} {B : Nat} (h : MaxLaid w) (hb : Below B w w') (hB : w.heap.size ≤ B) : MaxLaid w' := by
  obtain ⟨⟨m, hm⟩, hl⟩ := h
  exact ⟨⟨m, (hb.cell (p := ⟨3, 0, none⟩) (by show 3 < B; omega)).trans hm⟩, Nat.lt_of_lt_of_le hl hb.size⟩
/-- Words of a text in memory. -/
def WordsP (s : ByteArray) (c : UInt8) (w : World) (e : Ending) (w' : World) : Prop :=
  e = .returned (.slice (some ⟨w.heap.size, 0, none⟩) (words s c).length (words s c).length) ∧ Sli strR w' (fun b => b = w.heap.size) (words s c) (.slice (some ⟨w.heap.size, 0, none⟩) (words s c).length (words s c).length) ∧ Below w.heap.size w w' ∧ w'.heap.size = w.heap.size + 1
theorem words_c (s : ByteArray) (c : UInt8) (w : World) (hs : s.size ≤ 4000000000) (hm : MaxLaid w) : Calls Tryz.prog 87 #[.string s, .string ⟨#[c]⟩] w (WordsP s c w) := by
  obtain ⟨⟨m, hm⟩, _⟩ := hm
  refine (Tryz.strings_Split s ⟨#[c]⟩ m w (by omega) hm (Nat.le_refl 1)).mono ?_
  rintro e w' ⟨rfl, rfl⟩
  have hl := words_le s c
  unfold WordsP
  rw [words_len]
  refine ⟨rfl, ?_, (Below.refl _ _).alloc (Nat.le_refl _) _, by simp⟩
  rw [← words_len]
  refine Sli.new _ _ ⟨by rw [List.length_map]; show _ = _ * 1; rw [Nat.mul_one]; rfl, fun k x hx => ?_⟩ rfl (Nat.le_refl _) (by omega)
  show (((words s c).map Value.string).drop (k * 1)).take 1 = [.string x]
  obtain ⟨hk, rfl⟩ := List.getElem?_eq_some_iff.1 hx
  rw [Nat.mul_one, List.drop_eq_getElem_cons (by rw [List.length_map]; exact hk), List.take_succ_cons, List.take_zero, List.getElem_map]
end Go.Proofs.YtkhegeobdcemkaaGreatDoor

/- Takes as a text, in plain words. No program in sight. -/
namespace Go.Proofs.YtkhegeobdcemkaaGreatDoor
set_option linter.unusedVariables false
open Go.RowKit

def takeWd : ByteArray := ⟨#[116, 97, 107, 101]⟩
def coverWd : ByteArray := ⟨#[99, 111, 118, 101, 114]⟩
def goodWd (b : Bool) : ByteArray := if b = true then ⟨#[103, 111, 111, 100]⟩ else ⟨#[98, 97, 100]⟩
def onWd (b : Bool) : ByteArray := if b = true then ⟨#[111, 110]⟩ else ⟨#[111, 102, 102]⟩
def sndWd (s : ByteArray) : ByteArray := if s.toList.isEmpty = true then ⟨#[45]⟩ else s
def itS (n : Int) : ByteArray := ⟨(Lib.itoa n).toArray⟩
def joinSp (l : List ByteArray) : ByteArray := ⟨(lineL l).toArray⟩
def takeWs (t : Tk) : List ByteArray := [takeWd, slateA t.scene t.setup t.number, t.roll, itS t.tin, itS t.tout, sndWd t.sound, goodWd t.good]
def covWs (c : Cov) : List ByteArray := [coverWd, itS c.para, itS c.tin, itS c.tout, onWd c.on]
def takeLns (t : Tk) : List ByteArray := joinSp (takeWs t) :: t.covers.map fun c => joinSp (covWs c)
def takesLns (l : List Tk) : List ByteArray := l.flatMap takeLns
def takesT (l : List Tk) : List UInt8 := linesL (takesLns l)
def takesX (l : List Tk) : ByteArray := ⟨(takesT l).toArray⟩
theorem lineL7 (a b c d e f g : ByteArray) : (lineL [a, b, c, d, e, f, g]).length = a.size + b.size + c.size + d.size + e.size + f.size + g.size + 6 := by
  simp [lineL, Lib.join, List.intercalate]
  omega
theorem lineL5 (a b c d e : ByteArray) : (lineL [a, b, c, d, e]).length = a.size + b.size + c.size + d.size + e.size + 4 := by
  simp [lineL, Lib.join, List.intercalate]
  omega
theorem slateE_bd {sc se : ByteArray} {n : Int} (h : slateE sc se n = 0) : numB sc = true ∧ setupB se = true ∧ 1 ≤ n ∧ n ≤ 99 := by
  unfold slateE at h
  split at h
  · omega
  · rename_i c1
    split at h
    · omega
    · rename_i c2
      split at h
      · omega
      · exact ⟨by simpa using c1, by simpa using c2, by omega, by omega⟩
theorem slateA_size {sc se : ByteArray} {n : Int} (h : slateE sc se n = 0) : (slateA sc se n).size ≤ 40 := by
  obtain ⟨h1, h2, h3, h4⟩ := slateE_bd h
  have z1 := numB_size h1
  have z2 := setupB_size h2
  have hd : (⟨(Lib.decDigits n.toNat).toArray⟩ : ByteArray).size ≤ 20 := by
    have := decDigits_small (n := n.toNat) (by omega)
    exact Nat.le_trans this (by decide)
  unfold slateA slateS
  rw [if_pos h]
  have y1 : (⟨#[45]⟩ : ByteArray).size = 1 := rfl
  have y2 : (⟨#[47]⟩ : ByteArray).size = 1 := rfl
  split <;> simp only [ByteArray.size_append, y1, y2] <;> omega
theorem itS_size {n : Int} (h : okI n) : (itS n).size ≤ 21 := itoa_sz n h
theorem rollNameB_sz {s : ByteArray} (h : rollNameB s = true) : s.size ≤ 8 := by
  unfold rollNameB at h
  simp only [Bool.and_eq_true, decide_eq_true_eq] at h
  exact h.1.2
/-- What a take without an error stays within. -/
theorem tkFE_bd {t : Tk} (h : tkFE t = 0) : slateE t.scene t.setup t.number = 0 ∧ t.roll.size ≤ 8 ∧ t.sound.size ≤ 8 ∧ (0 ≤ t.tin ∧ t.tin ≤ 10000000) ∧ (0 ≤ t.tout ∧ t.tout ≤ 10000000) ∧ ∀ c ∈ t.covers, (0 ≤ c.para ∧ c.para ≤ 10000000) ∧ (0 ≤ c.tin ∧ c.tin ≤ 10000000) ∧ (0 ≤ c.tout ∧ c.tout ≤ 10000000) := by
  unfold tkFE at h
  split at h
  · rename_i c1; exact absurd h c1
  · rename_i c1
    split at h
    · omega
    · rename_i c2
      split at h
      · omega
      · rename_i c3
        have hb : ∀ z ∈ numsT t, 0 ≤ z ∧ z ≤ 10000000 := fun z hz => by
          by_cases hbz : badN z = true
          · exact absurd (List.any_eq_true.2 ⟨z, hz, hbz⟩) c3
          · unfold badN at hbz
            simp only [Bool.or_eq_true, decide_eq_true_eq] at hbz
            omega
        refine ⟨Classical.byContradiction c1, ?_, ?_, hb _ (by simp [numsT]), hb _ (by simp [numsT]), fun c hc => ⟨hb _ ?_, hb _ ?_, hb _ ?_⟩⟩
        · cases hr : rollNameB t.roll with
          | true => exact rollNameB_sz hr
          | false => exact absurd (.inl hr) c2
        · by_cases hs : t.sound = ⟨#[]⟩
          · rw [hs]; exact Nat.zero_le _
          · cases hr : rollNameB t.sound with
            | true => exact rollNameB_sz hr
            | false => exact absurd (.inr ⟨hs, hr⟩) c2
        · exact List.mem_append_right _ (List.mem_flatMap.2 ⟨c, hc, by simp [covN]⟩)
        · exact List.mem_append_right _ (List.mem_flatMap.2 ⟨c, hc, by simp [covN]⟩)
        · exact List.mem_append_right _ (List.mem_flatMap.2 ⟨c, hc, by simp [covN]⟩)
theorem sndWd_size {s : ByteArray} (h : s.size ≤ 8) : (sndWd s).size ≤ 8 := by
  unfold sndWd
  split
  · decide
  · exact h
theorem goodWd_size (b : Bool) : (goodWd b).size ≤ 4 := by cases b <;> decide
theorem onWd_size (b : Bool) : (onWd b).size ≤ 3 := by cases b <;> decide
theorem takeWs_len {t : Tk} (h : tkFE t = 0) : (lineL (takeWs t)).length ≤ 130 := by
  obtain ⟨h1, h2, h3, h4, h5, _⟩ := tkFE_bd h
  have a1 := slateA_size h1
  have a2 := itS_size (n := t.tin) ⟨by omega, by omega⟩
  have a3 := itS_size (n := t.tout) ⟨by omega, by omega⟩
  have a4 := sndWd_size h3
  have a5 := goodWd_size t.good
  have a6 : takeWd.size = 4 := rfl
  unfold takeWs
  rw [lineL7]
  omega
theorem covWs_len {c : Cov} (h : (0 ≤ c.para ∧ c.para ≤ 10000000) ∧ (0 ≤ c.tin ∧ c.tin ≤ 10000000) ∧ (0 ≤ c.tout ∧ c.tout ≤ 10000000)) : (lineL (covWs c)).length ≤ 90 := by
  have a1 := itS_size (n := c.para) ⟨by omega, by omega⟩
  have a2 := itS_size (n := c.tin) ⟨by omega, by omega⟩
  have a3 := itS_size (n := c.tout) ⟨by omega, by omega⟩
  have a5 := onWd_size c.on
  have a6 : coverWd.size = 5 := rfl
  unfold covWs
  rw [lineL5]
  omega
theorem linesL_app (a b : List ByteArray) : linesL (a ++ b) = linesL a ++ linesL b := by simp [linesL]
theorem linesL_cons (s : ByteArray) (l : List ByteArray) : linesL (s :: l) = s.data.toList ++ [10] ++ linesL l := by simp [linesL]
/-- The text of the first takes, and of the first covers of the next one. -/
theorem takesT_next (l : List Tk) (k : Nat) (hk : k < l.length) : takesT (l.take (k + 1)) = takesT (l.take k) ++ ((joinSp (takeWs l[k])).data.toList ++ [10] ++ linesL (l[k].covers.map fun c => joinSp (covWs c))) := by
  unfold takesT takesLns
  rw [List.take_succ_eq_append_getElem hk, List.flatMap_append, linesL_app]
  congr 1
  rw [List.flatMap_cons, List.flatMap_nil, List.append_nil]
  exact linesL_cons _ _
theorem covT_next (l : List Cov) (k : Nat) (hk : k < l.length) : linesL ((l.take (k + 1)).map fun c => joinSp (covWs c)) = linesL ((l.take k).map fun c => joinSp (covWs c)) ++ ((joinSp (covWs l[k])).data.toList ++ [10]) := by
  rw [List.take_succ_eq_append_getElem hk, List.map_append, List.map_singleton, linesL_snoc]
theorem covT_len (l : List Cov) (h : ∀ c ∈ l, (lineL (covWs c)).length ≤ 90) : (linesL (l.map fun c => joinSp (covWs c))).length ≤ 91 * l.length := by
  induction l with
  | nil => exact Nat.zero_le _
  | cons c r ih =>
    have h1 := h c (by simp)
    have h2 := ih fun x hx => h x (by simp [hx])
    rw [List.map_cons, linesL_cons, List.length_append, List.length_append, List.length_cons]
    show (lineL (covWs c)).toArray.toList.length + _ + _ ≤ _
    simp only [List.length_cons, List.length_nil]
    omega
theorem takesT_len (l : List Tk) (M : Nat) (h : ∀ t ∈ l, tkFE t = 0 ∧ t.covers.length ≤ M) : (takesT l).length ≤ (131 + 91 * M) * l.length := by
  induction l with
  | nil => exact Nat.zero_le _
  | cons t r ih =>
    have h1 := h t (by simp)
    have h2 := ih fun x hx => h x (by simp [hx])
    have h3 := takeWs_len h1.1
    have h4 := covT_len t.covers (fun c hc => covWs_len ((tkFE_bd h1.1).2.2.2.2.2 c hc))
    have h5 : 91 * t.covers.length ≤ 91 * M := Nat.mul_le_mul_left _ h1.2
    unfold takesT takesLns at h2 ⊢
    rw [List.flatMap_cons, linesL_app, List.length_append, show takeLns t = joinSp (takeWs t) :: t.covers.map (fun c => joinSp (covWs c)) from rfl, linesL_cons, List.length_append, List.length_append, show (t :: r).length = r.length + 1 from rfl, Nat.mul_add, Nat.mul_one]
    show (lineL (takeWs t)).toArray.toList.length + _ + _ + _ ≤ _
    simp only [List.length_cons, List.length_nil]
    omega
/-- What the text is, and the error. -/
def ptV (l : List Tk) : ByteArray × Int := if ¬ tksE l = 0 then (⟨#[]⟩, tksE l) else if 200000 < (takesX l).size then (⟨#[]⟩, 2) else (takesX l, 0)
end Go.Proofs.YtkhegeobdcemkaaGreatDoor

