/- Texts packed: GenH, RefD, EvX, EvN, EvT, EvE, PtH, TpS, TpC. -/
import Derived.Test.YtihkkaeoijheoaaGreatDoorTt02
import Derived.Test.YtihkkaeoijheoaaGreatDoorTt04
import Derived.Test.YtihkkaeoijheoaaGreatDoorTt03
import Derived.Test.YtihkkaeoijheoaaGreatDoorTt11
import Derived.Deep.RegionHeld3
import Derived.Deep.DeepCutAuto
import Derived.Test.YtihkkaeoijheoaaGreatDoorRows
import Derived.Test.YtihkkaeoijheoaaGreatDoorTt10
import Derived.Test.YtihkkaeoijheoaaGreatDoorTt01
import Derived.Lib.ItoaLen
import Derived.BigQuiet
import Derived.Deep.QuietTactic
/- The generator's events, and right rolls. -/
namespace Go.Proofs.YtihkkaeoijheoaaGreatDoor
set_option linter.unusedVariables false
open Go.RowKit Go.Sort

theorem isRolls.turn {sb s2 : Nat} {v : Value} {w w' : World} (h : isRolls sb v w) (hg : w.grownBy w' (some sb)) : isRolls sb v w' := by
  obtain ⟨B, a, b, c, rfl, h1, h2, h3, h4⟩ := h
  exact ⟨B, a, b, c, rfl, h1, Nat.lt_of_lt_of_le h2 hg.size, h3.grown hg (by omega), h4⟩
def fineA : Roll := ⟨⟨#[65, 49]⟩, 1, 0, 3000, 0⟩
def fineB : Roll := ⟨⟨#[65, 50]⟩, 1, 0, 3000, 0⟩
def fineC : Roll := ⟨⟨#[83, 49]⟩, 4, 0, 100000, 0⟩
set_option maxHeartbeats 1000000 in
theorem rightRolls_c (sb : Nat) (k : Int) (w : World) (hs : Str w sb k) (hk : k ≤ 4000000000000000000) :
    Calls Tryz.prog 87 #[.pointer (some ⟨sb, 0, none⟩)] w (Took sb k 20 (isRolls sb) w) := by
  have HS := Lib.hid hs; clear hs
  have hlt := HS.out.lt
  go_enter Tryz.func87, Tryz.ntmps87
  go_wp2_with fail
  refine (Rolls_c sb k _ HS.out hk).mono ?_
  rintro e w1 ⟨v1, k1, rfl, ⟨B, a, b, c, rfl, h1, h2, h3, ha, hb, hc⟩, hk1, hs1, hg1⟩
  have HR := Lib.hid h3
  have HA := Lib.hid (And.intro ha (And.intro hb hc))
  have S1 := Lib.hid hs1
  have G1 := Lib.hid hg1
  have hz1 := hg1.size
  clear hs1 hg1 h3 ha hb hc
  have hcc := RollsFault_c (some ⟨B, 0, none⟩) [a, b, c] 3 0 w1 (HR.out.rs 0 w1.heap.size (by omega) h2) (by simp) (by omega) (fun r hr => by
    obtain ⟨x, y, z⟩ := HA.out
    simp at hr
    rcases hr with rfl | rfl | rfl
    · have := x.1; omega
    · have := y.1; omega
    · have := z.1; omega)
  have HC := Lib.hid hcc
  clear hcc
  go_wp2_with fail
  refine HC.out.mono ?_
  rintro e w2 ⟨rfl, hb2⟩
  have hz2 := hb2.size
  have S2 := Lib.hid (S1.out.below hb2)
  have G2 := Lib.hid (gBelow G1.out hb2)
  have R2 := Lib.hid (HR.out.keep (hb2.block B h2))
  clear hb2 HC
  by_cases h0 : rollsFault [a, b, c] = 0
  · rw [h0]
    clear h0
    go_wp2
    go_ret
    exact ⟨_, k1, rfl, ⟨B, a, b, c, rfl, h1, by omega, R2.out, HA.out⟩, by omega, S2.out, G2.out⟩
  · have hne : (rollsFault [a, b, c] != 0) = true := by rw [bne_iff_ne]; exact h0
    clear h0
    go_wp2
    go_ret
    exact ⟨_, k1, rfl, ⟨w2.heap.size, fineA, fineB, fineC, rfl, by omega, by simp, heap_alloc_new w2 _, bdMk (by decide) (by omega) (by omega) (by omega) (by omega), bdMk (by decide) (by omega) (by omega) (by omega) (by omega), bdMk (by decide) (by omega) (by omega) (by omega) (by omega)⟩, by omega, S2.out.alloc _, gAlloc G2.out _⟩
set_option maxHeartbeats 400000 in
theorem RightRolls_c (sb : Nat) (k : Int) (w : World) (hs : Str w sb k) (hk : k ≤ 4000000000000000000) :
    Calls Tryz.prog 20 #[.pointer (some ⟨sb, 0, none⟩)] w (Took sb k 20 (isRolls sb) w) := by
  have HS := Lib.hid hs; clear hs
  go_enter Tryz.func20, Tryz.ntmps20
  go_wp2_with fail
  refine (rightRolls_c sb k _ HS.out hk).mono ?_
  rintro e w1 ⟨v1, k1, rfl, hv, hk1, hs1, hg1⟩
  have HV := Lib.hid hv
  have S1 := Lib.hid hs1
  have G1 := Lib.hid hg1
  clear hv hs1 hg1
  go_wp2
  go_ret
  exact ⟨_, k1, rfl, HV.out, hk1, S1.out, G1.out⟩
end Go.Proofs.YtihkkaeoijheoaaGreatDoor

/- The reference's look-up of a roll, and its Sync. -/
namespace Go.Proofs.YtihkkaeoijheoaaGreatDoor
set_option linter.unusedVariables false
open Go.RowKit

theorem findIdx_congr {α : Type} {p q : α → Bool} {l : List α} (h : ∀ x ∈ l, p x = q x) : l.findIdx? p = l.findIdx? q := by
  induction l with
  | nil => rfl
  | cons y l ih => rw [List.findIdx?_cons, List.findIdx?_cons, h y (by simp), ih (fun x hx => h x (by simp [hx]))]

theorem rollIdx_ref {l : List Roll} (h : ∀ r ∈ l, rollNameB r.name = true) (s : ByteArray) : l.findIdx? (fun y => decide (y.name = s) && !s.toList.isEmpty) = rollIdx l s := by
  refine findIdx_congr fun x hx => ?_
  have h1 := h x hx
  by_cases hs : x.name = s
  · subst hs
    have : x.name.toList.isEmpty = false := by
      rw [ByteArray.toList_eq]
      simp only [rollNameB, Bool.and_eq_true, decide_eq_true_eq] at h1
      cases hn : x.name.data.toList with
      | nil =>
        have : x.name.size = 0 := by show x.name.data.size = 0; rw [← Array.length_toList, hn]; rfl
        omega
      | cons y t => rfl
    simp [this]
  · simp [hs]

def insB (start last x : Int) : Bool := decide (start ≤ x) && decide (x ≤ last)
end Go.Proofs.YtihkkaeoijheoaaGreatDoor

/- The reference's error of events, walked. -/
namespace Go.Proofs.YtihkkaeoijheoaaGreatDoor
set_option linter.unusedVariables false
open Go.RowKit

theorem rollNames {l : List Roll} (h0 : rollsFault l = 0) : ∀ r ∈ l, rollNameB r.name = true := fun r hr => (rollsFault_ok l h0 r hr).2.2
theorem rateK_end (l : List Roll) (es : List Ev) : rateK l es es.length = evRate l es := by
  unfold rateK
  cases es with
  | nil => rfl
  | cons x r => rw [if_neg (by simp)]
end Go.Proofs.YtihkkaeoijheoaaGreatDoor

/- The program's numbers of three figures; the reference's joined lines. -/
namespace Go.Proofs.YtihkkaeoijheoaaGreatDoor
set_option linter.unusedVariables false
open Go.RowKit

theorem itoaS_size (n : Int) : (⟨(Lib.itoa n).toArray⟩ : ByteArray).size = (Lib.itoa n).length := rfl
theorem num3_of {n : Int} {c : Nat} (h : 3 - (Lib.itoa n).length = c) : (⟨(Lib.repeatL [48] c).toArray⟩ ++ ⟨(Lib.itoa n).toArray⟩ : ByteArray) = num3 n := by
  unfold num3
  rw [h]
  apply ByteArray.ext
  simp
theorem num3_size (n : Int) (hn : okI n) : (num3 n).size ≤ 25 := by
  have h := Lib.itoa_length_le n hn.1 hn.2
  show ((Lib.repeatL [48] (3 - (Lib.itoa n).length) ++ Lib.itoa n).toArray).size ≤ 25
  rw [List.size_toArray, List.length_append, Lib.repeatL_length]
  simp; omega

/-- Lines, each with its end. -/
def linesL (l : List ByteArray) : List UInt8 := (l.map fun s => s.data.toList ++ [10]).flatten
theorem linesL_snoc (l : List ByteArray) (s : ByteArray) : linesL (l ++ [s]) = linesL l ++ (s.data.toList ++ [10]) := by simp [linesL]
theorem linesL_take (l : List ByteArray) (k : Nat) (hk : k < l.length) : linesL (l.take (k + 1)) = linesL (l.take k) ++ (l[k].data.toList ++ [10]) := by rw [List.take_succ_eq_append_getElem hk, linesL_snoc]
theorem linesL_le (l : List ByteArray) (k : Nat) : (linesL (l.take k)).length ≤ (linesL l).length := by
  have : linesL l = linesL (l.take k) ++ linesL (l.drop k) := by
    unfold linesL
    rw [← List.flatten_append, ← List.map_append, List.take_append_drop]
  rw [this, List.length_append]; omega

set_option maxHeartbeats 1600000 in
theorem Joined_c (l : List ByteArray) (v : Value) (F : Nat → Prop) (w : World) (hv : Sli strR w F l v) (hF : ∀ b, F b → b < w.heap.size) (hlen : (linesL l).length ≤ 140737488355328) :
    Calls Tryz.prog 105 #[v] w fun e w' => e = .returned (.string ⟨(linesL l).toArray⟩) ∧ Below w.heap.size w w' := by
  obtain ⟨A, c, rfl, hlc, hcm⟩ := hv.form
  have HV := Lib.hid hv; clear hv
  have HF := Lib.hid hF; clear hF
  go_enter Tryz.func105, Tryz.ntmps105
  go_wp2
  go_loopw [9] (fun i wr => ∃ k : Nat, k ≤ l.length ∧ i = .int .i64 k ∧ Below w.heap.size w wr ∧ w.heap.size < wr.heap.size ∧ Hid (Bld wr w.heap.size (linesL (l.take k)))) (fun i _ => l.length - (intOf i).toNat)
  case atStart => exact ⟨0, Nat.zero_le _, rfl, (Below.refl _ _).alloc (Nat.le_refl _) _, by simp, Bld.new w⟩
  case round =>
    obtain ⟨k, hk, rfl, hb, hz, HB⟩ := hrel
    by_cases hlt : k < l.length
    · obtain ⟨b, off, rfl, hfb, c0⟩ := strAt (HV.out.below hb HF.out) k hlt
      have HS := Lib.hid (linesL_take l k hlt)
      have h1 := linesL_le l (k + 1)
      rw [HS.out] at h1
      have h2 : (linesL (l.take k)).length + (l[k] ++ ⟨#[10]⟩ : ByteArray).size ≤ 140737488355328 := by
        rw [ByteArray.size_append]
        rw [List.length_append, List.length_append] at h1
        have e1 : l[k].data.toList.length = l[k].size := by simp
        rw [e1] at h1
        have e2 : (⟨#[10]⟩ : ByteArray).size = 1 := rfl
        have e3 : ([10] : List UInt8).length = 1 := rfl
        omega
      have HD := Lib.hid (show (l[k] ++ ⟨#[10]⟩ : ByteArray).data.toList = l[k].data.toList ++ [10] by simp)
      clear h1
      generalize l[k] = x at *
      have hxs : x.size ≤ 140737488355328 := by rw [ByteArray.size_append] at h2; omega
      have HBB := Lib.hid hb
      go_wp2_with fail
      refine (write_c w.heap.size _ _ _ HB.out h2).mono ?_
      rintro e w1 ⟨rfl, hb1, hb2⟩
      have HB1 := Lib.hid (HBB.out.trans hb2)
      rw [HD.out] at hb1
      have HX := Lib.hid hb1
      have hz1 := hb2.size
      clear hb1 hb2 h2
      go_wp2
      go_roundw
      case rel => exact ⟨k + 1, by omega, intNum, HB1.out, by omega, by rw [HS.out]; exact HX.out⟩
      case measure => simp [intOf]; omega
    · rw [List.take_of_length_le (by omega)] at HB
      have HBB := Lib.hid hb
      go_wp2_with fail
      refine (text_c w.heap.size _ _ HB.out).mono ?_
      rintro e w1 ⟨rfl, hb1⟩
      have HB1 := Lib.hid (HBB.out.trans hb1)
      clear hb1
      generalize hq : linesL l = q at *
      have HQ := Lib.hid hq
      have hqs : (⟨q.toArray⟩ : ByteArray).size ≤ 140737488355328 := by show q.toArray.size ≤ _; simpa using hlen
      clear hq
      generalize hY : (⟨q.toArray⟩ : ByteArray) = Y at hqs ⊢
      have HY := Lib.hid hY
      clear hY
      go_wp2
      go_ret
      exact ⟨ret_str (by rw [HQ.out, HY.out]; exact ByteArray.ext (by simp)), HB1.out⟩
end Go.Proofs.YtihkkaeoijheoaaGreatDoor

/- Texts of events: their sizes. No program in sight. -/
namespace Go.Proofs.YtihkkaeoijheoaaGreatDoor
set_option linter.unusedVariables false
open Go.RowKit

theorem evSum_app (a b : List Ev) : evSum (a ++ b) = evSum a + evSum b := by
  induction a with
  | nil => simp [evSum]
  | cons y l ih => rw [List.cons_append, evSum, ih, evSum]; omega
theorem evSum_le {rolls : List Roll} {q : Int} (hR : rollsFault rolls = 0) {l : List Ev} (h : ∀ x ∈ l, evF rolls q x = 0) (k : Nat) (hk : k < l.length) : evSum (l.take k) + (l[k].tout - l[k].tin) ≤ evSum l := by
  have h1 := evSum_take l k hk
  have h2 : evSum l = evSum (l.take (k + 1)) + evSum (l.drop (k + 1)) := by rw [← evSum_app, List.take_append_drop]
  have h3 := (evSum_bd (rolls := rolls) (rate := q) hR (l.drop (k + 1)) (fun x hx => h x (List.mem_of_mem_drop hx))).1
  omega
theorem lineL6 (a b c d e f : ByteArray) : (lineL [a, b, c, d, e, f]).length = a.size + b.size + c.size + d.size + e.size + f.size + 5 := by
  simp [lineL, Lib.join, List.intercalate]
  omega
theorem evLine_le (rolls : List Roll) (i at_ : Int) (x : Ev) (hi : okI i) (hx : x.roll.size ≤ 1000) : (lineL (evLine rolls i at_ x)).length ≤ 1080 := by
  unfold evLine
  rw [lineL6, codeS_len, codeS_len, codeS_len, codeS_len]
  have := num3_size i hi
  omega
theorem evText_le (rolls : List Roll) (es : List Ev) (h : ∀ x ∈ es, x.roll.size ≤ 1000) : ∀ (i a : Int), 0 ≤ i → i + (es.length : Int) ≤ 1000000 → (evText rolls i a es).length ≤ 1100 * es.length := by
  induction es with
  | nil => intro i a _ _; simp [evText]
  | cons x r ih =>
    intro i a h0 h1
    rw [List.length_cons] at h1
    have h2 := evLine_le rolls i a x ⟨by omega, by omega⟩ (h x (by simp))
    have h3 := ih (fun y hy => h y (by simp [hy])) (i + 1) (a + (x.tout - x.tin)) (by omega) (by omega)
    rw [evText, List.length_append, List.length_append, List.length_cons]
    simp only [List.length_cons, List.length_nil]
    omega
theorem evText_step (rolls : List Roll) (es : List Ev) (k : Nat) (hk : k < es.length) :
    evText rolls 1 0 (es.take (k + 1)) = evText rolls 1 0 (es.take k) ++ (lineL (evLine rolls ((k : Int) + 1) (evSum (es.take k)) es[k]) ++ [10]) := by
  rw [List.take_succ_eq_append_getElem hk, evText_snoc, List.length_take, Nat.min_eq_left (by omega), Int.zero_add, Int.add_comm 1]
/-- The text, if the events are right. -/
def evOut (rolls : List Roll) (es : List Ev) : ByteArray := if evErrA rolls es = 0 then ⟨(evText rolls 1 0 es).toArray⟩ else ⟨#[]⟩
theorem erA0 {rolls : List Roll} {es : List Ev} (h : evErrA rolls es = 0) : rollsFault rolls = 0 := by
  unfold evErrA at h
  by_cases h0 : rollsFault rolls = 0
  · exact h0
  · rw [if_pos h0] at h; exact absurd h h0
/-- What right events are. -/
theorem evErrA_ok {rolls : List Roll} {es : List Ev} (h : evErrA rolls es = 0) : rollsFault rolls = 0 ∧ es.length ≤ 999 ∧ (∀ x ∈ es, evF rolls (evRate rolls es) x = 0) ∧ evSum es ≤ framesN (evRate rolls es) := by
  unfold evErrA at h
  by_cases h0 : rollsFault rolls = 0
  · rw [if_neg (by rw [h0]; simp)] at h
    unfold evErr at h
    by_cases h1 : 999 < es.length
    · rw [if_pos h1] at h; omega
    · rw [if_neg h1] at h
      by_cases h2 : firstE (evF rolls (evRate rolls es)) es = 0
      · rw [if_neg (by rw [h2]; simp)] at h
        by_cases h3 : framesN (evRate rolls es) < evSum es
        · rw [if_pos h3] at h; omega
        · exact ⟨h0, by omega, firstE_zero h2, by omega⟩
      · rw [if_pos h2] at h; exact absurd h h2
  · rw [if_pos h0] at h; exact absurd h h0
/-- What the printing of event k needs. -/
theorem ev_print {rolls : List Roll} {es : List Ev} (h : evErrA rolls es = 0) (k : Nat) (hk : k < es.length) :
    ∃ q, rollHas rolls es[k].roll = true ∧ (rollGet rolls es[k].roll).rate = q ∧ isRateB q = true ∧ framesN q ≤ 2592000 ∧ 0 ≤ es[k].tin ∧ es[k].tin < framesN q ∧ 0 ≤ es[k].tout - 1 ∧ es[k].tout - 1 < framesN q ∧ es[k].tin < es[k].tout ∧ 0 ≤ evSum (es.take k) ∧ evSum (es.take k) < framesN q ∧ 0 ≤ evSum (es.take k) + (es[k].tout - es[k].tin) - 1 ∧ evSum (es.take k) + (es[k].tout - es[k].tin) - 1 < framesN q := by
  obtain ⟨h0, h1, h2, h3⟩ := evErrA_ok h
  obtain ⟨a1, a2, a3, a4, a5, a6⟩ := evF_ok h0 (h2 es[k] (List.getElem_mem hk))
  have b1 := evSum_le h0 h2 k hk
  have b2 := (evSum_bd h0 (es.take k) (fun x hx => h2 x (List.mem_of_mem_take hx))).1
  have b3 := (frames_bd a3).2
  exact ⟨_, a1, a2, a3, b3, a4, by omega, by omega, by omega, a5, b2, by omega, by omega, by omega⟩
end Go.Proofs.YtihkkaeoijheoaaGreatDoor

/- Lists of events compared; lines cut into words. -/
namespace Go.Proofs.YtihkkaeoijheoaaGreatDoor
set_option linter.unusedVariables false
open Go.RowKit

instance : DecidableEq Ev := fun a b => decidable_of_iff (a.eqB b = true) Ev.eqB_iff
/-- The library's word for the longest text that its search by heart serves lies where it was laid. -/
def MaxLaid (w : World) : Prop := (∃ m, w.cell? ⟨0, 0, none⟩ = some (.int .i64 m)) ∧ 0 < w.heap.size
theorem max_below {w w' : World} {B : Nat} (h : MaxLaid w) (hb : Below B w w') (hB : w.heap.size ≤ B) : MaxLaid w' := by
  obtain ⟨⟨m, hm⟩, hl⟩ := h
  exact ⟨⟨m, (hb.cell (p := ⟨0, 0, none⟩) (by show 0 < B; omega)).trans hm⟩, Nat.lt_of_lt_of_le hl hb.size⟩
/-- Words of a text in memory. -/
def WordsP (s : ByteArray) (c : UInt8) (w : World) (e : Ending) (w' : World) : Prop :=
  e = .returned (.slice (some ⟨w.heap.size, 0, none⟩) (words s c).length (words s c).length) ∧ Sli strR w' (fun b => b = w.heap.size) (words s c) (.slice (some ⟨w.heap.size, 0, none⟩) (words s c).length (words s c).length) ∧ Below w.heap.size w w' ∧ w'.heap.size = w.heap.size + 1
theorem words_c (s : ByteArray) (c : UInt8) (w : World) (hs : s.size ≤ 4000000000) (hm : MaxLaid w) : Calls Tryz.prog 106 #[.string s, .string ⟨#[c]⟩] w (WordsP s c w) := by
  obtain ⟨⟨m, hm⟩, _⟩ := hm
  refine (Tryz.strings_Split s ⟨#[c]⟩ m w (by omega) hm (Nat.le_refl 1)).mono ?_
  rintro e w' ⟨rfl, rfl⟩
  have hl := words_le s c
  unfold WordsP
  rw [words_len]
  refine ⟨rfl, ?_, (Below.refl _ _).alloc (Nat.le_refl _) _, by simp⟩
  rw [← words_len]
  refine Sli.new _ _ ⟨by rw [List.length_map]; show _ = _ * 1; rw [Nat.mul_one]; rfl, fun k x hx => ?_⟩ rfl (Nat.le_refl _) (by omega)
  show (((words s c).map Value.string).drop (k * 1)).take 1 = [.string x]
  obtain ⟨hk, rfl⟩ := List.getElem?_eq_some_iff.1 hx
  rw [Nat.mul_one, List.drop_eq_getElem_cons (by rw [List.length_map]; exact hk), List.take_succ_cons, List.take_zero, List.getElem_map]
end Go.Proofs.YtihkkaeoijheoaaGreatDoor

/- Lists of the same takes compared. -/
namespace Go.Proofs.YtihkkaeoijheoaaGreatDoor
set_option linter.unusedVariables false
open Go.RowKit Go.Sort

set_option maxRecDepth 100000 in
set_option maxHeartbeats 800000 in
theorem eqCov_c (l : List Cov) (v1 v2 : Value) (F : Nat → Prop) (w : World) (h1 : Sli covR w F l v1) (h2 : Sli covR w F l v2) (hF : ∀ b, F b → b < w.heap.size) :
    Calls Tryz.prog 114 #[v1, v2] w fun e w' => e = .returned (.bool true) ∧ Below w.heap.size w w' := by
  obtain ⟨A1, c1, rfl, hlc1, hc1⟩ := h1.form
  obtain ⟨A2, c2, rfl, hlc2, hc2⟩ := h2.form
  have H1 := Lib.hid h1; clear h1
  have H2 := Lib.hid h2; clear h2
  have HF := Lib.hid hF; clear hF
  obtain ⟨n, hn1⟩ : ∃ n, l.length = n := ⟨_, rfl⟩
  rw [hn1] at H1 H2 hlc1 hlc2 ⊢
  have HN := Lib.hid hn1
  clear hn1
  go_enter Tryz.func114, Tryz.ntmps114
  go_wp2
  go_loopw [13] (fun i wr => ∃ k : Nat, k ≤ n ∧ i = .int .i64 k ∧ Below w.heap.size w wr) (fun i _ => n - (intOf i).toNat)
  case atStart => exact ⟨0, Nat.zero_le _, rfl, Below.refl _ _⟩
  case round =>
    obtain ⟨k, hk, rfl, hb⟩ := hrel
    by_cases hlt : k < n
    · have hk2 : k < l.length := by rw [HN.out]; exact hlt
      obtain ⟨b, off, rfl, hfb, c0, c1, c2, c3⟩ := covAt (H1.out.below hb HF.out) k hk2
      obtain ⟨b2, off2, rfl, hfb2, d0, d1, d2, d3⟩ := covAt (H2.out.below hb HF.out) k hk2
      generalize l[k] = x at *
      obtain ⟨x1, x2, x3, x4⟩ := x
      dsimp only at c0 c1 c2 c3 d0 d1 d2 d3
      cases x4
      all_goals
        go_wp2
        go_region
        go_wp2
        go_roundw
        · exact ⟨k + 1, by omega, intNum, by first | exact hb | exact hb.drew | exact below_drewN hb _⟩
        · simp [intOf]; omega
    · go_wp2
      go_ret
      exact ⟨rfl, hb⟩
set_option maxRecDepth 100000 in
set_option maxHeartbeats 1600000 in
theorem sameTk_c {F : Nat → Prop} (x : Tk) (v1 v2 : Value) (w : World) (h1 : Sli covR w F x.covers v1) (h2 : Sli covR w F x.covers v2) (hF : ∀ b, F b → b < w.heap.size) :
    Calls Tryz.prog 113 #[.agg #[.string x.scene, .string x.setup, .int .i64 x.number, .string x.roll, .string x.sound, .int .i64 x.tin, .int .i64 x.tout, .bool x.good, v1], .agg #[.string x.scene, .string x.setup, .int .i64 x.number, .string x.roll, .string x.sound, .int .i64 x.tin, .int .i64 x.tout, .bool x.good, v2]] w fun e w' => e = .returned (.bool true) ∧ Below w.heap.size w w' := by
  obtain ⟨A1, c1, rfl, hlc1, hc1⟩ := h1.form
  obtain ⟨A2, c2, rfl, hlc2, hc2⟩ := h2.form
  have H1 := Lib.hid h1; clear h1
  have H2 := Lib.hid h2; clear h2
  have HF := Lib.hid hF; clear hF
  obtain ⟨n, hn1⟩ : ∃ n, x.covers.length = n := ⟨_, rfl⟩
  rw [hn1] at H1 H2 ⊢
  clear hn1 hlc1 hlc2
  have HB := Lib.hid (((Below.refl w.heap.size w).alloc (Nat.le_refl _) (.cells (tkCs x A1 n c1) 125)).alloc (by simp) (.cells (tkCs x A2 n c2) 125))
  have y := tk_cells ((Below.heap_alloc (w.alloc (.cells (tkCs x A1 n c1) 125)) (.cells (tkCs x A2 n c2) 125) w.heap.size (by simp)).trans (heap_alloc_new w (.cells (tkCs x A1 n c1) 125)))
  have z := tk_cells (heap_alloc_new (w.alloc (.cells (tkCs x A1 n c1) 125)) (.cells (tkCs x A2 n c2) 125))
  rw [show (w.alloc (.cells (tkCs x A1 n c1) 125)).heap.size = w.heap.size + 1 by simp] at z
  have HY := Lib.hid y
  have HZ := Lib.hid z
  clear y z
  go_enter Tryz.func113, Tryz.ntmps113
  go_upto_region 1 with (fail)
  generalize (w.alloc (.cells #[.string x.scene, .string x.setup, .int .i64 x.number, .string x.roll, .string x.sound, .int .i64 x.tin, .int .i64 x.tout, .bool x.good, .slice A1 n c1] 125)).alloc (.cells #[.string x.scene, .string x.setup, .int .i64 x.number, .string x.roll, .string x.sound, .int .i64 x.tin, .int .i64 x.tout, .bool x.good, .slice A2 n c2] 125) = w1 at *
  obtain ⟨y0, y1, y2, y3, y4, y5, y6, y7, y8⟩ := HY.out
  obtain ⟨z0, z1, z2, z3, z4, z5, z6, z7, z8⟩ := HZ.out
  have HEQ := Lib.hid (eqCov_c x.covers _ _ (fun q => q < w1.heap.size) w1 ((H1.out.below HB.out HF.out).more fun q hq => by have := HF.out q hq; have := HB.out.size; omega) ((H2.out.below HB.out HF.out).more fun q hq => by have := HF.out q hq; have := HB.out.size; omega) (fun q hq => hq))
  clear H1 H2 HY HZ
  go_wp2_with fail
  refine HEQ.out.mono ?_
  rintro e w2 ⟨rfl, hb2⟩
  have HB2 := Lib.hid (HB.out.trans (hb2.mono HB.out.size))
  clear hb2
  go_wp2
  go_ret
  exact ⟨rfl, HB2.out⟩
theorem takes_fn : ∀ args W, (callFunc 113 args).run Tryz.prog W = .ok (.enter 113 args) W := fun _ _ => by kernel_rfl
set_option maxRecDepth 100000 in
set_option maxHeartbeats 1600000 in
theorem eqTakes_c {F : Nat → Prop} (l1 l2 : List (Tk × Value)) (v1 v2 : Value) (w : World) (h1 : TkW w F l1 v1) (h2 : TkW w F l2 v2) (he : l1.map (·.1) = l2.map (·.1)) :
    Calls Tryz.prog 112 #[v1, v2, .func (.func 113) #[] #[]] w fun e w' => e = .returned (.bool true) ∧ Below w.heap.size w w' := by
  obtain ⟨A1, c1, rfl, hlc1, hc1⟩ := h1.sli.form
  obtain ⟨A2, c2, rfl, hlc2, hc2⟩ := h2.sli.form
  have eg := takes_fn
  have H1 := Lib.hid h1; clear h1
  have H2 := Lib.hid h2; clear h2
  have hne : l1.length = l2.length := by have := congrArg List.length he; simpa using this
  obtain ⟨n, hn1⟩ : ∃ n, l1.length = n := ⟨_, rfl⟩
  have hn2 : l2.length = n := by omega
  have HN1 := Lib.hid hn1
  have HN2 := Lib.hid hn2
  have HE := Lib.hid he
  rw [hn1] at H1 hlc1 ⊢
  rw [hn2] at H2 hlc2 ⊢
  clear hn1 hn2 hne he
  go_enter Tryz.func112, Tryz.ntmps112
  go_wp2
  go_loopw [17] (fun i wr => ∃ k : Nat, k ≤ n ∧ i = .int .i64 k ∧ Below w.heap.size w wr) (fun i _ => n - (intOf i).toNat)
  case atStart => exact ⟨0, Nat.zero_le _, rfl, Below.refl _ _⟩
  case round =>
    obtain ⟨k, hk, rfl, hb⟩ := hrel
    by_cases hlt : k < n
    · have hk1 : k < l1.length := by rw [HN1.out]; exact hlt
      have hk2 : k < l2.length := by rw [HN2.out]; exact hlt
      have S1 := H1.out.below hb
      have S2 := H2.out.below hb
      obtain ⟨b, off, rfl, hfb, a0, a1, a2, a3, a4, a5, a6, a7, a8⟩ := tkAt S1.sli k hk1
      obtain ⟨b2, off2, rfl, hfb2, d0, d1, d2, d3, d4, d5, d6, d7, d8⟩ := tkAt S2.sli k hk2
      have hltb : b < wr.heap.size := S1.lt b hfb
      have hltb2 : b2 < wr.heap.size := S2.lt b2 hfb2
      have p1 := S1.cov _ (List.getElem_mem hk1)
      have p2 := S2.cov _ (List.getElem_mem hk2)
      have hxy : (l1[k]'hk1).1 = (l2[k]'hk2).1 := by
        have h : (l1.map (·.1))[k]? = (l2.map (·.1))[k]? := by rw [HE.out]
        rw [List.getElem?_map, List.getElem?_map, List.getElem?_eq_getElem hk1, List.getElem?_eq_getElem hk2] at h
        injection h
      obtain ⟨A3, c3, e3, l3, _⟩ := p1.form
      obtain ⟨A4, c4, e4, l4, _⟩ := p2.form
      clear l3 l4
      have HBB := Lib.hid hb
      have HB2 := Lib.hid (fun (o1 o2 : Obj) => show Below wr.heap.size wr ((wr.alloc o1).alloc o2) from (((Below.refl _ wr).alloc (Nat.le_refl _) o1).alloc (by simp) o2))
      rw [e3] at a8 p1
      rw [e4] at d8 p2
      rw [← hxy] at d0 d1 d2 d3 d4 d5 d6 d7 d8 p2
      have HEQ := Lib.hid (fun (W : World) (hW2 : Below wr.heap.size wr W) => sameTk_c (l1[k]'hk1).1 _ _ W (p1.below hW2 S1.lt) (p2.below hW2 S2.lt) (fun b hb => Nat.lt_of_lt_of_le (S1.lt b hb) hW2.size))
      clear p1 p2 S1 S2 e3 e4 hxy
      generalize (l1[k]'hk1).1 = x at *
      generalize x.covers.length = n3 at *
      clear hk1 hk2 hb hfb hfb2
      go_wp2_with fail
      refine (HEQ.out _ (by exact HB2.out _ _)).mono ?_
      rintro e w' ⟨rfl, hb'⟩
      have HB3 := Lib.hid (HBB.out.trans (((HB2.out _ _).trans (hb'.mono (HB2.out _ _).size)).mono HBB.out.size))
      clear hb'
      go_wp2
      go_roundw
      case rel => exact ⟨k + 1, by omega, intNum, HB3.out⟩
      case measure => simp [intOf]; omega
    · go_wp2
      go_ret
      exact ⟨rfl, hb⟩
set_option maxRecDepth 100000 in
set_option maxHeartbeats 1600000 in
theorem SameTakes_c {F : Nat → Prop} (l1 l2 : List (Tk × Value)) (v1 v2 : Value) (w : World) (h1 : TkW w F l1 v1) (h2 : TkW w F l2 v2) (he : l1.map (·.1) = l2.map (·.1)) :
    Calls Tryz.prog 30 #[v1, v2] w fun e w' => e = .returned (.bool true) ∧ Below w.heap.size w w' := by
  have HEQ := Lib.hid (eqTakes_c l1 l2 v1 v2 w h1 h2 he)
  clear h1 h2 he
  go_enter Tryz.func30, Tryz.ntmps30
  go_wp2_with fail
  refine HEQ.out.mono ?_
  rintro e w2 ⟨rfl, hb2⟩
  have HB := Lib.hid hb2
  clear hb2
  go_wp2
  go_ret
  exact ⟨rfl, HB.out⟩
end Go.Proofs.YtihkkaeoijheoaaGreatDoor

/- Takes as a text, in plain words. No program in sight. -/
namespace Go.Proofs.YtihkkaeoijheoaaGreatDoor
set_option linter.unusedVariables false
open Go.RowKit

def takeWd : ByteArray := ⟨#[116, 97, 107, 101]⟩
def coverWd : ByteArray := ⟨#[99, 111, 118, 101, 114]⟩
def goodWd (b : Bool) : ByteArray := if b = true then ⟨#[103, 111, 111, 100]⟩ else ⟨#[98, 97, 100]⟩
def onWd (b : Bool) : ByteArray := if b = true then ⟨#[111, 110]⟩ else ⟨#[111, 102, 102]⟩
def sndWd (s : ByteArray) : ByteArray := if s.toList.isEmpty = true then ⟨#[45]⟩ else s
def itS (n : Int) : ByteArray := ⟨(Lib.itoa n).toArray⟩
def joinSp (l : List ByteArray) : ByteArray := ⟨(lineL l).toArray⟩
def takeWs (t : Tk) : List ByteArray := [takeWd, slateA t.scene t.setup t.number, t.roll, itS t.tin, itS t.tout, sndWd t.sound, goodWd t.good]
def covWs (c : Cov) : List ByteArray := [coverWd, itS c.para, itS c.tin, itS c.tout, onWd c.on]
def takeLns (t : Tk) : List ByteArray := joinSp (takeWs t) :: t.covers.map fun c => joinSp (covWs c)
def takesLns (l : List Tk) : List ByteArray := l.flatMap takeLns
def takesT (l : List Tk) : List UInt8 := linesL (takesLns l)
def takesX (l : List Tk) : ByteArray := ⟨(takesT l).toArray⟩
theorem lineL7 (a b c d e f g : ByteArray) : (lineL [a, b, c, d, e, f, g]).length = a.size + b.size + c.size + d.size + e.size + f.size + g.size + 6 := by
  simp [lineL, Lib.join, List.intercalate]
  omega
theorem lineL5 (a b c d e : ByteArray) : (lineL [a, b, c, d, e]).length = a.size + b.size + c.size + d.size + e.size + 4 := by
  simp [lineL, Lib.join, List.intercalate]
  omega
theorem slateE_bd {sc se : ByteArray} {n : Int} (h : slateE sc se n = 0) : numB sc = true ∧ setupB se = true ∧ 1 ≤ n ∧ n ≤ 99 := by
  unfold slateE at h
  split at h
  · omega
  · rename_i c1
    split at h
    · omega
    · rename_i c2
      split at h
      · omega
      · exact ⟨by simpa using c1, by simpa using c2, by omega, by omega⟩
theorem slateA_size {sc se : ByteArray} {n : Int} (h : slateE sc se n = 0) : (slateA sc se n).size ≤ 40 := by
  obtain ⟨h1, h2, h3, h4⟩ := slateE_bd h
  have z1 := numB_size h1
  have z2 := setupB_size h2
  have hd : (⟨(Lib.decDigits n.toNat).toArray⟩ : ByteArray).size ≤ 20 := by
    have := decDigits_small (n := n.toNat) (by omega)
    exact Nat.le_trans this (by decide)
  unfold slateA slateS
  rw [if_pos h]
  have y1 : (⟨#[45]⟩ : ByteArray).size = 1 := rfl
  have y2 : (⟨#[47]⟩ : ByteArray).size = 1 := rfl
  split <;> simp only [ByteArray.size_append, y1, y2] <;> omega
theorem itS_size {n : Int} (h : okI n) : (itS n).size ≤ 21 := itoa_sz n h
theorem rollNameB_sz {s : ByteArray} (h : rollNameB s = true) : s.size ≤ 8 := by
  unfold rollNameB at h
  simp only [Bool.and_eq_true, decide_eq_true_eq] at h
  exact h.1.2
/-- What a take without an error stays within. -/
theorem tkFE_bd {t : Tk} (h : tkFE t = 0) : slateE t.scene t.setup t.number = 0 ∧ t.roll.size ≤ 8 ∧ t.sound.size ≤ 8 ∧ (0 ≤ t.tin ∧ t.tin ≤ 10000000) ∧ (0 ≤ t.tout ∧ t.tout ≤ 10000000) ∧ ∀ c ∈ t.covers, (0 ≤ c.para ∧ c.para ≤ 10000000) ∧ (0 ≤ c.tin ∧ c.tin ≤ 10000000) ∧ (0 ≤ c.tout ∧ c.tout ≤ 10000000) := by
  unfold tkFE at h
  split at h
  · rename_i c1; exact absurd h c1
  · rename_i c1
    split at h
    · omega
    · rename_i c2
      split at h
      · omega
      · rename_i c3
        have hb : ∀ z ∈ numsT t, 0 ≤ z ∧ z ≤ 10000000 := fun z hz => by
          by_cases hbz : badN z = true
          · exact absurd (List.any_eq_true.2 ⟨z, hz, hbz⟩) c3
          · unfold badN at hbz
            simp only [Bool.or_eq_true, decide_eq_true_eq] at hbz
            omega
        refine ⟨Classical.byContradiction c1, ?_, ?_, hb _ (by simp [numsT]), hb _ (by simp [numsT]), fun c hc => ⟨hb _ ?_, hb _ ?_, hb _ ?_⟩⟩
        · cases hr : rollNameB t.roll with
          | true => exact rollNameB_sz hr
          | false => exact absurd (.inl hr) c2
        · by_cases hs : t.sound = ⟨#[]⟩
          · rw [hs]; exact Nat.zero_le _
          · cases hr : rollNameB t.sound with
            | true => exact rollNameB_sz hr
            | false => exact absurd (.inr ⟨hs, hr⟩) c2
        · exact List.mem_append_right _ (List.mem_flatMap.2 ⟨c, hc, by simp [covN]⟩)
        · exact List.mem_append_right _ (List.mem_flatMap.2 ⟨c, hc, by simp [covN]⟩)
        · exact List.mem_append_right _ (List.mem_flatMap.2 ⟨c, hc, by simp [covN]⟩)
theorem sndWd_size {s : ByteArray} (h : s.size ≤ 8) : (sndWd s).size ≤ 8 := by
  unfold sndWd
  split
  · decide
  · exact h
theorem goodWd_size (b : Bool) : (goodWd b).size ≤ 4 := by cases b <;> decide
theorem onWd_size (b : Bool) : (onWd b).size ≤ 3 := by cases b <;> decide
theorem takeWs_len {t : Tk} (h : tkFE t = 0) : (lineL (takeWs t)).length ≤ 130 := by
  obtain ⟨h1, h2, h3, h4, h5, _⟩ := tkFE_bd h
  have a1 := slateA_size h1
  have a2 := itS_size (n := t.tin) ⟨by omega, by omega⟩
  have a3 := itS_size (n := t.tout) ⟨by omega, by omega⟩
  have a4 := sndWd_size h3
  have a5 := goodWd_size t.good
  have a6 : takeWd.size = 4 := rfl
  unfold takeWs
  rw [lineL7]
  omega
theorem covWs_len {c : Cov} (h : (0 ≤ c.para ∧ c.para ≤ 10000000) ∧ (0 ≤ c.tin ∧ c.tin ≤ 10000000) ∧ (0 ≤ c.tout ∧ c.tout ≤ 10000000)) : (lineL (covWs c)).length ≤ 90 := by
  have a1 := itS_size (n := c.para) ⟨by omega, by omega⟩
  have a2 := itS_size (n := c.tin) ⟨by omega, by omega⟩
  have a3 := itS_size (n := c.tout) ⟨by omega, by omega⟩
  have a5 := onWd_size c.on
  have a6 : coverWd.size = 5 := rfl
  unfold covWs
  rw [lineL5]
  omega
theorem linesL_app (a b : List ByteArray) : linesL (a ++ b) = linesL a ++ linesL b := by simp [linesL]
theorem linesL_cons (s : ByteArray) (l : List ByteArray) : linesL (s :: l) = s.data.toList ++ [10] ++ linesL l := by simp [linesL]
/-- The text of the first takes, and of the first covers of the next one. -/
theorem takesT_next (l : List Tk) (k : Nat) (hk : k < l.length) : takesT (l.take (k + 1)) = takesT (l.take k) ++ ((joinSp (takeWs l[k])).data.toList ++ [10] ++ linesL (l[k].covers.map fun c => joinSp (covWs c))) := by
  unfold takesT takesLns
  rw [List.take_succ_eq_append_getElem hk, List.flatMap_append, linesL_app]
  congr 1
  rw [List.flatMap_cons, List.flatMap_nil, List.append_nil]
  exact linesL_cons _ _
theorem covT_next (l : List Cov) (k : Nat) (hk : k < l.length) : linesL ((l.take (k + 1)).map fun c => joinSp (covWs c)) = linesL ((l.take k).map fun c => joinSp (covWs c)) ++ ((joinSp (covWs l[k])).data.toList ++ [10]) := by
  rw [List.take_succ_eq_append_getElem hk, List.map_append, List.map_singleton, linesL_snoc]
theorem covT_len (l : List Cov) (h : ∀ c ∈ l, (lineL (covWs c)).length ≤ 90) : (linesL (l.map fun c => joinSp (covWs c))).length ≤ 91 * l.length := by
  induction l with
  | nil => exact Nat.zero_le _
  | cons c r ih =>
    have h1 := h c (by simp)
    have h2 := ih fun x hx => h x (by simp [hx])
    rw [List.map_cons, linesL_cons, List.length_append, List.length_append, List.length_cons]
    show (lineL (covWs c)).toArray.toList.length + _ + _ ≤ _
    simp only [List.length_cons, List.length_nil]
    omega
theorem takesT_len (l : List Tk) (M : Nat) (h : ∀ t ∈ l, tkFE t = 0 ∧ t.covers.length ≤ M) : (takesT l).length ≤ (131 + 91 * M) * l.length := by
  induction l with
  | nil => exact Nat.zero_le _
  | cons t r ih =>
    have h1 := h t (by simp)
    have h2 := ih fun x hx => h x (by simp [hx])
    have h3 := takeWs_len h1.1
    have h4 := covT_len t.covers (fun c hc => covWs_len ((tkFE_bd h1.1).2.2.2.2.2 c hc))
    have h5 : 91 * t.covers.length ≤ 91 * M := Nat.mul_le_mul_left _ h1.2
    unfold takesT takesLns at h2 ⊢
    rw [List.flatMap_cons, linesL_app, List.length_append, show takeLns t = joinSp (takeWs t) :: t.covers.map (fun c => joinSp (covWs c)) from rfl, linesL_cons, List.length_append, List.length_append, show (t :: r).length = r.length + 1 from rfl, Nat.mul_add, Nat.mul_one]
    show (lineL (takeWs t)).toArray.toList.length + _ + _ + _ ≤ _
    simp only [List.length_cons, List.length_nil]
    omega
/-- What the text is, and the error. -/
def ptV (l : List Tk) : ByteArray × Int := if ¬ tksE l = 0 then (⟨#[]⟩, tksE l) else if 200000 < (takesX l).size then (⟨#[]⟩, 2) else (takesX l, 0)
end Go.Proofs.YtihkkaeoijheoaaGreatDoor

/- The program's printing of takes, walked. -/
namespace Go.Proofs.YtihkkaeoijheoaaGreatDoor
set_option linter.unusedVariables false
open Go.RowKit Go.Sort

theorem lenK_c (B : Nat) (l : List UInt8) (w : World) (h : BldK w B l) :
    Calls Tryz.prog 97 #[.pointer (some ⟨B, 0, none⟩)] w fun e w' => e = .returned (.int .i64 l.length) ∧ w' = w :=
  (Tryz.Builder_Len_f B B (Lib.byteCells l) w h).mono fun _ _ h => ⟨by rw [h.1, Lib.byteCells_length], h.2⟩
def PtP (l : List Tk) (w : World) (e : Ending) (w' : World) : Prop := e = .returned (.tuple #[.string (ptV l).1, .int .i64 (ptV l).2]) ∧ Below w.heap.size w w'
theorem PtP.mk {l : List Tk} {s : ByteArray} {q : Int} {w w' : World} (h : ptV l = (s, q)) (hb : Below w.heap.size w w') : PtP l w (.returned (.tuple #[.string s, .int .i64 q])) w' := ⟨by rw [h], hb⟩
theorem TkW.ok {w : World} {F : Nat → Prop} {tl : List (Tk × Value)} {v : Value} (h : TkW w F tl v) (h0 : tksE (tl.map (·.1)) = 0) : tl.length ≤ 3000 ∧ ∀ x ∈ tl, tkFE x.1 = 0 ∧ x.1.covers.length ≤ 300000 := by
  unfold tksE at h0
  split at h0
  · omega
  · rename_i c
    rw [List.length_map] at c
    exact ⟨by omega, fun x hx => ⟨tkFEs_ok _ h0 _ (List.mem_map.2 ⟨x, hx, rfl⟩), (h.bd x hx).2.2.2.2⟩⟩
set_option maxRecDepth 100000 in
set_option maxHeartbeats 8000000 in
theorem PrintTakes_c {F : Nat → Prop} (tl : List (Tk × Value)) (v : Value) (w : World) (h : TkW w F tl v) (hp : PowLaid w) :
    Calls Tryz.prog 23 #[v] w (PtP (tl.map (·.1)) w) := by
  have HTF := Lib.hid (takesFault_c tl v w h)
  obtain ⟨A, c, rfl, hlc, hcm⟩ := h.sli.form
  have HH := Lib.hid h
  have HP := Lib.hid hp
  clear h hp
  obtain ⟨L, hL⟩ : ∃ L, tl.length = L := ⟨_, rfl⟩
  have HL := Lib.hid hL
  rw [hL] at HH HTF hlc ⊢
  clear hL
  go_enter Tryz.func23, Tryz.ntmps23
  go_wp2_with fail
  refine HTF.out.mono ?_
  rintro e w1 ⟨rfl, hb1⟩
  have HB1 := Lib.hid hb1
  clear hb1 HTF
  by_cases h0 : tksE (tl.map (·.1)) = 0
  case neg =>
    have HR := Lib.hid (show ptV (tl.map (·.1)) = (⟨#[]⟩, tksE (tl.map (·.1))) from if_pos h0)
    have hne : (tksE (tl.map (·.1)) != 0) = true := bne_iff_ne.2 h0
    generalize tksE (tl.map (·.1)) = te at *
    clear h0
    go_wp2
    go_ret2
    exact PtP.mk HR.out HB1.out
  have HOK := Lib.hid (HH.out.ok h0)
  have hl3 : L ≤ 3000 := by rw [← HL.out]; exact HOK.out.1
  have HPV := Lib.hid (show ptV (tl.map (·.1)) = if 200000 < (takesX (tl.map (·.1))).size then (⟨#[]⟩, 2) else (takesX (tl.map (·.1)), 0) from if_neg (fun h => h h0))
  have HLEN := Lib.hid (show ∀ k, (takesT ((tl.map (·.1)).take k)).length ≤ (131 + 91 * 300000) * 3000 from fun k => by
    have h1 := takesT_len ((tl.map (·.1)).take k) 300000 (fun t ht => by
      obtain ⟨x, hx, rfl⟩ := List.mem_map.1 (List.mem_of_mem_take ht)
      exact HOK.out.2 x hx)
    refine Nat.le_trans h1 (Nat.mul_le_mul_left _ ?_)
    rw [List.length_take, List.length_map, HL.out]; omega)
  rw [h0]
  clear h0
  go_upto_region 5 with (fail)
  have hbl := BldK.new w1
  have hB1 := HB1.out.alloc HB1.out.size (.cells #[.pointer none, .slice none 0 0] 135)
  have hz1 : (w1.alloc (.cells #[.pointer none, .slice none 0 0] 135)).heap.size = w1.heap.size + 1 := by simp
  generalize w1.alloc (.cells #[.pointer none, .slice none 0 0] 135) = w2 at *
  have hBw := HB1.out.size
  generalize w1.heap.size = B at *
  have HBL := Lib.hid (show BldK w2 B (takesT ((tl.map (·.1)).take 0)) from hbl)
  have HB2 := Lib.hid hB1
  clear hbl hB1 HB1
  go_wp2
  go_loopw [22] (fun i wr => ∃ k : Nat, k ≤ L ∧ i = .int .i64 k ∧ Hid (BldK wr B (takesT ((tl.map (·.1)).take k))) ∧ Hid (Below w.heap.size w wr) ∧ B < wr.heap.size) (fun i _ => L - (intOf i).toNat)
  case atStart => exact ⟨0, Nat.zero_le _, rfl, HBL, HB2, by omega⟩
  case round =>
    clear HBL HB2 hz1
    obtain ⟨k, hk, rfl, HBL, HB, hzw⟩ := hrel
    by_cases hlt : k < L
    · have hk2 : k < tl.length := by rw [HL.out]; exact hlt
      obtain ⟨b, off, rfl, hfb, c0, c1, c2, c3, c4, c5, c6, c7, c8⟩ := tkAt (HH.out.below HB.out).sli k hk2
      have hmem := List.getElem_mem hk2
      have hcv := HH.out.cov _ hmem
      obtain ⟨q1, q2, q3, q4, q5⟩ := HH.out.bd _ hmem
      have hfe := (HOK.out.2 _ hmem).1
      obtain ⟨A8, cc8, h8, _, _⟩ := hcv.form
      rw [h8] at c8 hcv
      have hkm : k < (tl.map (·.1)).length := by rw [List.length_map]; exact hk2
      have hst := takesT_next (tl.map (·.1)) k hkm
      have hgm : (tl.map (·.1))[k]'hkm = (tl[k]'hk2).1 := List.getElem_map ..
      rw [hgm] at hst
      have hle := HLEN.out k
      have hbw : b < wr.heap.size := Nat.lt_of_lt_of_le (HH.out.lt b hfb) HB.out.size
      clear h8 hmem hgm hkm
      generalize (tl[k]'hk2).1 = x at *
      generalize takesT ((tl.map (·.1)).take k) = tx at *
      have HST := Lib.hid hst
      have HCV := Lib.hid hcv
      have HFE := Lib.hid (tkFE_bd hfe)
      have hwl := takeWs_len hfe
      obtain ⟨M, hM⟩ : ∃ M, x.covers.length = M := ⟨_, rfl⟩
      have HMM := Lib.hid hM
      rw [hM] at c8 HCV q5
      have HB1 := Lib.hid (HB.out.alloc HB.out.size (.cells (tkCs x A8 M cc8) 125))
      have HBL1 := Lib.hid (HBL.out.alloc (.cells (tkCs x A8 M cc8) 125))
      have HY1 := Lib.hid (heap_alloc_new wr (.cells (tkCs x A8 M cc8) 125))
      have hwz : wr.heap.size < (wr.alloc (.cells (tkCs x A8 M cc8) 125)).heap.size := by simp
      clear hst hcv hk2 hM HB HBL hfe
      go_upto_region 8 with (fail)
      generalize wr.alloc (.cells #[.string x.scene, .string x.setup, .int .i64 x.number, .string x.roll, .string x.sound, .int .i64 x.tin, .int .i64 x.tout, .bool x.good, .slice A8 M cc8] 125) = w3 at *
      obtain ⟨y0, y1, y2, y3, y4, y5, y6, y7, y8⟩ := tk_cells HY1.out
      have HSL := Lib.hid (Slate_c x.scene x.setup x.number w3 (by omega) (by omega))
      clear c0 c1 c2 c3 c4 c5 c6 c7 c8
      go_wp2_with fail
      with_reducible refine HSL.out.mono ?_
      rintro e w' ⟨rfl, rfl⟩
      have HWS := Lib.hid (show takeWs x = [takeWd, slateA x.scene x.setup x.number, x.roll, itS x.tin, itS x.tout, sndWd x.sound, goodWd x.good] from rfl)
      rw [HWS.out] at hwl
      generalize slateA x.scene x.setup x.number = sl at *
      generalize slateE x.scene x.setup x.number = sle at *
      clear HSL
      go_upto_if 39 with (fail)
      go_cut [10] (fun s wx => s = .string (sndWd x.sound) ∧ wx = w3)
      case first =>
        cases he : x.sound.toList.isEmpty with
        | true =>
          have HSN := Lib.hid (show sndWd x.sound = ⟨#[45]⟩ from if_pos he)
          go_wp2
          go_meet
          exact ⟨by rw [HSN.out], rfl⟩
        | false =>
          have HSN := Lib.hid (show sndWd x.sound = x.sound from if_neg (by rw [he]; decide))
          go_wp2
          go_meet
          exact ⟨by rw [HSN.out], rfl⟩
      case rest =>
      obtain ⟨rfl, rfl⟩ := hcut
      generalize sndWd x.sound = sn at *
      go_upto_if 41 with (fail)
      go_cut [11] (fun s wx => s = .string (goodWd x.good) ∧ wx = wc)
      case first =>
        cases hg : x.good with
        | true =>
          rw [hg] at y7
          go_wp2
          go_meet
          exact ⟨by rw [hg]; rfl, rfl⟩
        | false =>
          rw [hg] at y7
          go_wp2
          go_meet
          exact ⟨by rw [hg]; rfl, rfl⟩
      case rest =>
      obtain ⟨rfl, rfl⟩ := hcut
      generalize goodWd x.good = gd at *
      go_upto_region 14 with (fail)
      obtain ⟨hs0, hr8, hs8, ht1, ht2, hcc⟩ := HFE.out
      have HCC := Lib.hid hcc
      have HPW := Lib.hid (show PowLaid wc from pow_below HP.out HB1.out (Nat.le_refl _))
      have s3 := fun d os => cell_regrown y3 d os
      have s5 := fun d os => cell_regrown y5 d os
      have s6 := fun d os => cell_regrown y6 d os
      have HI1 := Lib.hid (show okI x.tin from ⟨by omega, by omega⟩)
      have HI2 := Lib.hid (show okI x.tout from ⟨by omega, by omega⟩)
      clear hcc hs0 y0 y1 y2 y3 y4 y5 y6 y7 y8
      refine wp_region_below_tail 11 (by kernel_rfl) (by kernel_rfl) ?_
      simp only [List.take_succ_cons, List.take_zero, List.drop_succ_cons, List.drop_zero]
      repeat (first | go_big_quiet_step ((first | (go_at_call 96; exact Calls.regrown_of (itoa_c x.tin _ HI1.out (pow_below HPW.out (below_regrown _ _ _) (Nat.le_refl _)))) | (go_at_call 96; exact Calls.regrown_of (itoa_c x.tout _ HI2.out (pow_below HPW.out (below_regrown _ _ _) (Nat.le_refl _)))))) | quiet_step ((first | (go_at_call 96; exact Calls.regrown_of (itoa_c x.tin _ HI1.out (pow_below HPW.out (below_regrown _ _ _) (Nat.le_refl _)))) | (go_at_call 96; exact Calls.regrown_of (itoa_c x.tout _ HI2.out (pow_below HPW.out (below_regrown _ _ _) (Nat.le_refl _)))))))
      refine wpQuiet_nil ?_
      intro wx hwx
      have hbx := below_of_regrown hwx
      clear hwx
      clear s3 s5 s6
      have hzx := hbx.size
      have HBLx := Lib.hid (HBL1.out.below hbx)
      have HBx := Lib.hid (HB1.out.trans (hbx.mono HB1.out.size))
      have HYx := Lib.hid ((hbx.block wr.heap.size hwz).trans HY1.out)
      clear hbx HBL1 HB1 HY1
      obtain ⟨X, hX⟩ : ∃ X, joinSp [takeWd, sl, x.roll, itS x.tin, itS x.tout, sn, gd] = X := ⟨_, rfl⟩
      have hxs : X.size ≤ 130 := by rw [← hX]; show (lineL _).toArray.size ≤ 130; simpa using hwl
      have HJX := Lib.hid (show joinSp (takeWs x) = X by rw [HWS.out]; exact hX)
      have HX0 := Lib.hid hX
      have hBwx : B < wx.heap.size := by omega
      clear hX hwl
      go_wp2_with fail
      refine (joinX [takeWd, sl, x.roll, itS x.tin, itS x.tout, sn, gd] ⟨#[32]⟩ X _ _ _ HX0.out (by omega) (strLit wx _ _ _ 7 rfl rfl (by decide)) (fun b h => by simp; omega) (by simp)).mono ?_
      rintro e w7 ⟨rfl, hb7⟩
      have hz7 := hb7.size
      simp at hz7
      have HBL7 := Lib.hid ((HBLx.out.alloc _).below hb7)
      have HB7 := Lib.hid ((HBx.out.alloc HBx.out.size _).trans (hb7.mono (by simp; have := HBx.out.size; omega)))
      have HY7 := Lib.hid (((hb7.block wr.heap.size (by simp; omega)).trans (Below.heap_alloc wx _ _ (by omega))).trans HYx.out)
      clear hb7 HBLx HBx HYx
      have HLD := Lib.hid (show (X ++ ⟨#[10]⟩ : ByteArray).data.toList = X.data.toList ++ [10] by simp)
      have HLZ := Lib.hid (show (X ++ ⟨#[10]⟩ : ByteArray).size = X.size + 1 by rw [ByteArray.size_append]; rfl)
      have hsz8 : tx.length + (X ++ ⟨#[10]⟩ : ByteArray).size ≤ 140737488355328 := by rw [HLZ.out]; omega
      have HWR := Lib.hid (writeK_c B tx (X ++ ⟨#[10]⟩) w7 HBL7.out hsz8)
      have ez : (⟨#[10]⟩ : ByteArray).size = 1 := rfl
      clear hsz8
      go_wp2_with fail
      refine HWR.out.mono ?_
      rintro e w8 ⟨rfl, hbl8, hb8, hk8⟩
      rw [HLD.out] at hbl8
      have hz8 := hb8.size
      have HBL8 := Lib.hid hbl8
      have HB8 := Lib.hid (HB7.out.trans (hb8.mono hBw))
      have HY8 := Lib.hid (keptK hk8 HY7.out (by omega) (by decide))
      clear hbl8 hb8 hk8 HWR HBL7 HB7 HY7 HLD HLZ
      obtain ⟨_, _, _, _, _, _, _, _, y8⟩ := tk_cells HY8.out
      have hB8 : B < w8.heap.size := by omega
      have HCL := Lib.hid (fun c hc => covWs_len (HCC.out c hc))
      have HINI := Lib.hid (show tx ++ (X.data.toList ++ [10]) ++ linesL ((x.covers.take 0).map fun c => joinSp (covWs c)) = tx ++ (X.data.toList ++ [10]) by rw [List.take_zero, List.map_nil]; exact List.append_nil _)
      have HFIN := Lib.hid (show takesT ((tl.map (·.1)).take (k + 1)) = tx ++ (X.data.toList ++ [10]) ++ linesL (x.covers.map fun c => joinSp (covWs c)) by rw [HST.out, HJX.out]; simp only [List.append_assoc])
      have htz : (tx ++ (X.data.toList ++ [10])).length ≤ (131 + 91 * 300000) * 3000 + 131 := by rw [List.length_append, List.length_append]; simp; omega
      generalize tx ++ (X.data.toList ++ [10]) = ty at *
      clear HST HX0 HJX HWS
      go_wp2
      go_loopw [60] (fun i wx => ∃ j : Nat, j ≤ M ∧ i = .int .i64 j ∧ Hid (BldK wx B (ty ++ linesL ((x.covers.take j).map fun c => joinSp (covWs c)))) ∧ Hid (Below w.heap.size w wx) ∧ B < wx.heap.size) (fun i _ => M - (intOf i).toNat)
      case atStart => exact ⟨0, Nat.zero_le _, rfl, by rw [HINI.out]; exact HBL8, HB8, hB8⟩
      case round =>
        clear HBL8 HB8 hB8 y8 HY8
        obtain ⟨j, hj, rfl, HBL, HB, hzv⟩ := hrel
        by_cases hlj : j < M
        · have hj2 : j < x.covers.length := by rw [HMM.out]; exact hlj
          obtain ⟨b2, off2, rfl, hfb2, d0, d1, d2, d3⟩ := covAt (HCV.out.below HB.out HH.out.lt) j hj2
          have hcm := List.getElem_mem hj2
          have hcl := HCL.out _ hcm
          obtain ⟨o1, o2, o3⟩ := HCC.out _ hcm
          have hct := covT_len (x.covers.take j) (fun c hc => HCL.out c (List.mem_of_mem_take hc))
          have htl : (x.covers.take j).length ≤ 300000 := by rw [List.length_take, HMM.out]; omega
          have hbw2 : b2 < wr.heap.size := by have := HH.out.lt b2 hfb2; have := HB.out.size; omega
          have HNX := Lib.hid (covT_next x.covers j hj2)
          clear hcm
          generalize (x.covers[j]'hj2) = z at *
          have hpl : (ty ++ linesL ((x.covers.take j).map fun c => joinSp (covWs c))).length ≤ 90000000000 := by rw [List.length_append]; omega
          have HNY := Lib.hid (show ty ++ linesL ((x.covers.take (j + 1)).map fun c => joinSp (covWs c)) = ty ++ linesL ((x.covers.take j).map fun c => joinSp (covWs c)) ++ ((joinSp (covWs z)).data.toList ++ [10]) by rw [HNX.out, List.append_assoc])
          generalize ty ++ linesL ((x.covers.take j).map fun c => joinSp (covWs c)) = tz at *
          have HB1 := Lib.hid (HB.out.alloc HB.out.size (.cells #[.int .i64 z.para, .int .i64 z.tin, .int .i64 z.tout, .bool z.on] 127))
          have HBL1 := Lib.hid (HBL.out.alloc (.cells #[.int .i64 z.para, .int .i64 z.tin, .int .i64 z.tout, .bool z.on] 127))
          clear HNX hj2 hct htl HB HBL
          go_upto_region 19 with (fail)
          generalize hW : wr.alloc (.cells #[.int .i64 z.para, .int .i64 z.tin, .int .i64 z.tout, .bool z.on] 127) = w9 at *
          obtain ⟨y, _⟩ := str_cells (show w9.heap[wr.heap.size]? = some (.cells #[.int .i64 z.para, .int .i64 z.tin, .int .i64 z.tout, .bool z.on] 127 (0, 0)) from by rw [← hW]; exact heap_alloc_new wr _)
          have e0 : w9.cell? ⟨wr.heap.size, 0, none⟩ = some (.int .i64 z.para) := y 0
          have e1 : w9.cell? ⟨wr.heap.size, 1, none⟩ = some (.int .i64 z.tin) := y 1
          have e2 : w9.cell? ⟨wr.heap.size, 2, none⟩ = some (.int .i64 z.tout) := y 2
          have e3 : w9.cell? ⟨wr.heap.size, 3, none⟩ = some (.bool z.on) := y 3
          have hB9 : B < w9.heap.size := by rw [← hW]; simp; omega
          clear y hW d0 d1 d2 d3
          have HCW := Lib.hid (show covWs z = [coverWd, itS z.para, itS z.tin, itS z.tout, onWd z.on] from rfl)
          rw [HCW.out] at hcl
          go_upto_if 65 with (fail)
          go_cut [14] (fun s wx => s = .string (onWd z.on) ∧ wx = w9)
          case first =>
            cases hg : z.on with
            | true =>
              rw [hg] at e3
              go_wp2
              go_meet
              exact ⟨by rw [hg]; rfl, rfl⟩
            | false =>
              rw [hg] at e3
              go_wp2
              go_meet
              exact ⟨by rw [hg]; rfl, rfl⟩
          case rest =>
          obtain ⟨rfl, rfl⟩ := hcut
          generalize onWd z.on = od at *
          have HPW2 := Lib.hid (show PowLaid wc from pow_below HP.out HB1.out (Nat.le_refl _))
          have s3 := fun d os => cell_regrown e0 d os
          have s5 := fun d os => cell_regrown e1 d os
          have s6 := fun d os => cell_regrown e2 d os
          have HJ1 := Lib.hid (show okI z.para from ⟨by omega, by omega⟩)
          have HJ2 := Lib.hid (show okI z.tin from ⟨by omega, by omega⟩)
          have HJ3 := Lib.hid (show okI z.tout from ⟨by omega, by omega⟩)
          clear e0 e1 e2 e3
          go_upto_region 21 with (fail)
          refine wp_region_below_tail 10 (by kernel_rfl) (by kernel_rfl) ?_
          simp only [List.take_succ_cons, List.take_zero, List.drop_succ_cons, List.drop_zero]
          repeat (first | go_big_quiet_step ((first | (go_at_call 96; exact Calls.regrown_of (itoa_c z.para _ HJ1.out (pow_below HPW2.out (below_regrown _ _ _) (Nat.le_refl _)))) | (go_at_call 96; exact Calls.regrown_of (itoa_c z.tin _ HJ2.out (pow_below HPW2.out (below_regrown _ _ _) (Nat.le_refl _)))) | (go_at_call 96; exact Calls.regrown_of (itoa_c z.tout _ HJ3.out (pow_below HPW2.out (below_regrown _ _ _) (Nat.le_refl _)))))) | quiet_step ((first | (go_at_call 96; exact Calls.regrown_of (itoa_c z.para _ HJ1.out (pow_below HPW2.out (below_regrown _ _ _) (Nat.le_refl _)))) | (go_at_call 96; exact Calls.regrown_of (itoa_c z.tin _ HJ2.out (pow_below HPW2.out (below_regrown _ _ _) (Nat.le_refl _)))) | (go_at_call 96; exact Calls.regrown_of (itoa_c z.tout _ HJ3.out (pow_below HPW2.out (below_regrown _ _ _) (Nat.le_refl _)))))))
          refine wpQuiet_nil ?_
          intro wx hwx
          have hbx := below_of_regrown hwx
          clear hwx
          clear s3 s5 s6
          have hzx := hbx.size
          have HBLx := Lib.hid (HBL1.out.below hbx)
          have HBx := Lib.hid (HB1.out.trans (hbx.mono HB1.out.size))
          clear hbx HBL1 HB1
          obtain ⟨X2, hX⟩ : ∃ X2, joinSp [coverWd, itS z.para, itS z.tin, itS z.tout, od] = X2 := ⟨_, rfl⟩
          have hxs : X2.size ≤ 90 := by rw [← hX]; show (lineL _).toArray.size ≤ 90; simpa using hcl
          have HJX := Lib.hid (show joinSp (covWs z) = X2 by rw [HCW.out]; exact hX)
          have HX0 := Lib.hid hX
          have hBwx : B < wx.heap.size := by omega
          clear hX hcl
          go_wp2_with fail
          refine (joinX [coverWd, itS z.para, itS z.tin, itS z.tout, od] ⟨#[32]⟩ X2 _ _ _ HX0.out (by omega) (strLit wx _ _ _ 5 rfl rfl (by decide)) (fun b h => by simp; omega) (by simp)).mono ?_
          rintro e wq ⟨rfl, hbq⟩
          have hzq := hbq.size
          simp at hzq
          have HBLq := Lib.hid ((HBLx.out.alloc _).below hbq)
          have HBq := Lib.hid ((HBx.out.alloc HBx.out.size _).trans (hbq.mono (by simp; have := HBx.out.size; omega)))
          clear hbq HBLx HBx
          have HLD := Lib.hid (show (X2 ++ ⟨#[10]⟩ : ByteArray).data.toList = X2.data.toList ++ [10] by simp)
          have HLZ := Lib.hid (show (X2 ++ ⟨#[10]⟩ : ByteArray).size = X2.size + 1 by rw [ByteArray.size_append]; rfl)
          have hsz8 : tz.length + (X2 ++ ⟨#[10]⟩ : ByteArray).size ≤ 140737488355328 := by rw [HLZ.out]; omega
          have HWR := Lib.hid (writeK_c B tz (X2 ++ ⟨#[10]⟩) wq HBLq.out hsz8)
          clear hsz8
          go_wp2_with fail
          refine HWR.out.mono ?_
          rintro e wz ⟨rfl, hblz, hbz, hkz⟩
          rw [HLD.out] at hblz
          have hzz := hbz.size
          have HBLz := Lib.hid (show BldK wz B (ty ++ linesL ((x.covers.take (j + 1)).map fun c => joinSp (covWs c))) by rw [HNY.out, HJX.out]; exact hblz)
          have HBz := Lib.hid (HBq.out.trans (hbz.mono hBw))
          clear hblz hbz hkz HWR HBLq HBq HLD HLZ
          go_wp2
          go_roundw
          case rel => exact ⟨j + 1, by omega, intNum, HBLz, HBz, by omega⟩
          case measure => simp [intOf]; omega
        · have HE := Lib.hid (show BldK wr B (takesT ((tl.map (·.1)).take (k + 1))) by
            have h := HBL.out
            rw [List.take_of_length_le (by rw [HMM.out]; omega), ← HFIN.out] at h
            exact h)
          clear HBL
          go_wp2
          go_roundw
          case rel => exact ⟨k + 1, by omega, intNum, HE, HB, hzv⟩
          case measure => simp [intOf]; omega
    · have HTX := Lib.hid (show takesT ((tl.map (·.1)).take k) = takesT (tl.map (·.1)) by rw [List.take_of_length_le (by rw [List.length_map, HL.out]; omega)])
      rw [HTX.out] at HBL
      have HSZ := Lib.hid (show (takesX (tl.map (·.1))).size = (takesT (tl.map (·.1))).length by show (takesT _).toArray.size = _; simp)
      have hle := HLEN.out k
      rw [HTX.out] at hle
      have HLE := Lib.hid (lenK_c B _ wr HBL.out)
      have HSTR := Lib.hid (textK_c B _ wr HBL.out)
      rw [show (⟨(takesT (tl.map (·.1))).toArray⟩ : ByteArray) = takesX (tl.map (·.1)) from rfl] at HSTR
      generalize takesT (tl.map (·.1)) = tt at *
      go_wp2_with fail
      refine HLE.out.mono ?_
      rintro e w' ⟨rfl, rfl⟩
      by_cases hx : 200000 < tt.length
      · have HR := Lib.hid (HPV.out.trans (if_pos (by rw [HSZ.out]; exact hx)))
        have hx' : (200000 : Int) < tt.length := by omega
        clear hx
        go_wp2
        go_ret2
        exact PtP.mk HR.out HB.out
      · have HR := Lib.hid (HPV.out.trans (if_neg (by rw [HSZ.out]; exact hx)))
        have hx' : (tt.length : Int) ≤ 200000 := by omega
        clear hx
        go_wp2_with fail
        refine HSTR.out.mono ?_
        rintro e w8 ⟨rfl, hb8⟩
        have HB8 := Lib.hid (HB.out.trans (hb8.mono hBw))
        clear hb8 HSTR
        go_wp2
        go_ret2
        exact PtP.mk HR.out HB8.out
end Go.Proofs.YtihkkaeoijheoaaGreatDoor

