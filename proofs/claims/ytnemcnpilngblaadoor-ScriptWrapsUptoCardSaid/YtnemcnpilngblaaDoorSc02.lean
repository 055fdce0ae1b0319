/- Texts packed: TlS, WdS, WpS. -/
import Derived.Test.YtnemcnpilngblaaDoorSc01
/- How many scenes each set has, in plain words. No program in sight. -/
namespace Go.Proofs.YtnemcnpilngblaaDoor
set_option linter.unusedVariables false
open Go.RowKit

instance memBA (s : ByteArray) (a : List ByteArray) : Decidable (s ∈ a) := decidable_of_iff (∃ x ∈ a, x = s) (by simp)
end Go.Proofs.YtnemcnpilngblaaDoor

/- The words of a text, in plain words. No program in sight. -/
namespace Go.Proofs.YtnemcnpilngblaaDoor
set_option linter.unusedVariables false
open Go.RowKit

end Go.Proofs.YtnemcnpilngblaaDoor

/- Words divided into lines, in plain words. No program in sight. -/
namespace Go.Proofs.YtnemcnpilngblaaDoor
set_option linter.unusedVariables false
open Go.RowKit

/-- A long word: pieces of the width, and what is left. -/
def chopA (wd : Nat) (w : List UInt8) : List (List UInt8) :=
  if h : 0 < wd ∧ wd < w.length then w.take wd :: chopA wd (w.drop wd) else []
termination_by w.length
decreasing_by rw [List.length_drop]; omega
def chopZ (wd : Nat) (w : List UInt8) : List UInt8 :=
  if h : 0 < wd ∧ wd < w.length then chopZ wd (w.drop wd) else w
termination_by w.length
decreasing_by rw [List.length_drop]; omega
theorem chopA_more {wd : Nat} {w : List UInt8} (h0 : 0 < wd) (h : wd < w.length) : chopA wd w = w.take wd :: chopA wd (w.drop wd) := by rw [chopA, dif_pos ⟨h0, h⟩]
theorem chopA_done {wd : Nat} {w : List UInt8} (h : ¬ wd < w.length) : chopA wd w = [] := by rw [chopA, dif_neg (fun e => h e.2)]
theorem chopZ_more {wd : Nat} {w : List UInt8} (h0 : 0 < wd) (h : wd < w.length) : chopZ wd w = chopZ wd (w.drop wd) := by rw [chopZ, dif_pos ⟨h0, h⟩]
theorem chopZ_done {wd : Nat} {w : List UInt8} (h : ¬ wd < w.length) : chopZ wd w = w := by rw [chopZ, dif_neg (fun e => h e.2)]
theorem chopZ_pos {wd : Nat} (h0 : 0 < wd) : ∀ (n : Nat) (w : List UInt8), w.length ≤ n → w ≠ [] → chopZ wd w ≠ []
  | 0, w, hl, hw => absurd (List.eq_nil_of_length_eq_zero (by omega)) hw
  | n + 1, w, hl, hw => by
    by_cases h : wd < w.length
    · rw [chopZ_more h0 h]
      refine chopZ_pos h0 n _ (by rw [List.length_drop]; omega) (fun e => ?_)
      have := congrArg List.length e
      rw [List.length_drop] at this
      simp at this
      omega
    · rw [chopZ_done h]; exact hw
theorem chopA_len {wd : Nat} (h0 : 0 < wd) : ∀ (n : Nat) (w : List UInt8), w.length ≤ n → (chopA wd w).length ≤ w.length
  | 0, w, hl => by rw [chopA_done (by omega)]; simp
  | n + 1, w, hl => by
    by_cases h : wd < w.length
    · have ih := chopA_len h0 n (w.drop wd) (by rw [List.length_drop]; omega)
      rw [chopA_more h0 h, List.length_cons]
      rw [List.length_drop] at ih
      omega
    · rw [chopA_done h]; simp
/-- Lines full, and the line at hand. -/
structure Wst where
  out : List (List UInt8)
  cur : List UInt8
def wrapW (wd : Nat) (st : Wst) (w : List UInt8) : Wst :=
  if w = [] then st
  else if ¬ st.cur = [] ∧ st.cur.length + 1 + w.length ≤ wd then ⟨st.out, st.cur ++ 32 :: w⟩
  else ⟨st.out ++ (if st.cur = [] then [] else [st.cur]) ++ chopA wd w, chopZ wd w⟩
def Wst.all (st : Wst) : List (List UInt8) := st.out ++ (if st.cur = [] then [] else [st.cur])
def Wst.ok (st : Wst) : Prop := st.cur = [] → st.out = []
def wrapL (wd : Nat) (ws : List (List UInt8)) : Wst := ws.foldl (wrapW wd) ⟨[], []⟩
def mkB (l : List UInt8) : ByteArray := ⟨l.toArray⟩
def wrapT (s : ByteArray) (wd : Nat) : List ByteArray := (wrapL wd (wordsA s.data.toList [])).all.map mkB
theorem wrapL_snoc (wd : Nat) (ws : List (List UInt8)) (w : List UInt8) : wrapL wd (ws ++ [w]) = wrapW wd (wrapL wd ws) w := by simp [wrapL]
theorem wrapW_ok {wd : Nat} (h0 : 0 < wd) {st : Wst} (h : st.ok) (w : List UInt8) : (wrapW wd st w).ok := by
  unfold wrapW
  split
  · exact h
  · rename_i hw
    split
    · intro e; simp at e
    · intro e
      exact absurd e (chopZ_pos h0 w.length w (Nat.le_refl _) hw)
theorem wrapL_ok {wd : Nat} (h0 : 0 < wd) (ws : List (List UInt8)) : (wrapL wd ws).ok := by
  have key : ∀ (ws : List (List UInt8)) (st : Wst), st.ok → (ws.foldl (wrapW wd) st).ok := by
    intro ws
    induction ws with
    | nil => intro st h; exact h
    | cons w r ih => intro st h; exact ih _ (wrapW_ok h0 h w)
  exact key ws _ (fun _ => rfl)
theorem all_nil {st : Wst} (h : st.ok) : st.all = [] ↔ st.cur = [] := by
  unfold Wst.all
  by_cases hc : st.cur = []
  · rw [h hc, if_pos hc]; simp [hc]
  · rw [if_neg hc]; simp [hc]
/-- A word goes behind the line at hand. -/
theorem all_fits {wd : Nat} {st : Wst} {w : List UInt8} (hw : ¬ w = []) (hc : ¬ st.cur = []) (hf : st.cur.length + 1 + w.length ≤ wd) : (wrapW wd st w).all = st.all.modify (st.all.length - 1) (fun l => l ++ 32 :: w) ∧ st.all[st.all.length - 1]? = some st.cur := by
  unfold wrapW
  rw [if_neg hw, if_pos ⟨hc, hf⟩]
  unfold Wst.all
  rw [if_neg hc, if_neg (by simp)]
  refine ⟨?_, by simp⟩
  have hl : (st.out ++ [st.cur]).length - 1 = st.out.length := by simp
  rw [hl]
  apply List.ext_getElem?
  intro i
  rw [List.getElem?_modify]
  rcases Nat.lt_trichotomy i st.out.length with h | h | h
  · rw [List.getElem?_append_left h, List.getElem?_append_left h]
    cases st.out[i]? <;> simp [show ¬ st.out.length = i by omega]
  · subst h
    simp
  · rw [List.getElem?_eq_none (by simp; omega), List.getElem?_eq_none (by simp; omega)]
    rfl
/-- A word begins a line. -/
theorem all_new {wd : Nat} (h0 : 0 < wd) {st : Wst} {w : List UInt8} (hw : ¬ w = []) (hf : st.cur = [] ∨ ¬ st.cur.length + 1 + w.length ≤ wd) : (wrapW wd st w).all = st.all ++ chopA wd w ++ [chopZ wd w] := by
  unfold wrapW
  rw [if_neg hw, if_neg (fun h => hf.elim h.1 (fun h2 => h2 h.2))]
  unfold Wst.all
  dsimp only
  rw [if_neg (chopZ_pos h0 w.length w (Nat.le_refl _) hw)]
theorem wrapL_len {wd : Nat} (h0 : 0 < wd) (ws : List (List UInt8)) : (wrapL wd ws).all.length ≤ (ws.map fun w => w.length + 1).sum := by
  have key : ∀ (ws : List (List UInt8)) (st : Wst), (ws.foldl (wrapW wd) st).all.length ≤ st.all.length + (ws.map fun w => w.length + 1).sum := by
    intro ws
    induction ws with
    | nil => intro st; simp
    | cons w r ih =>
      intro st
      have h1 := ih (wrapW wd st w)
      have h2 : (wrapW wd st w).all.length ≤ st.all.length + (w.length + 1) := by
        by_cases hw : w = []
        · unfold wrapW; rw [if_pos hw]; omega
        · by_cases hc : st.cur = [] ∨ ¬ st.cur.length + 1 + w.length ≤ wd
          · rw [all_new h0 hw hc]
            have := chopA_len h0 w.length w (Nat.le_refl _)
            simp
            omega
          · have hc1 : ¬ st.cur = [] := fun e => hc (.inl e)
            have hc2 : st.cur.length + 1 + w.length ≤ wd := Classical.byContradiction fun e => hc (.inr e)
            rw [(all_fits hw hc1 hc2).1, List.length_modify]
            omega
      rw [List.foldl_cons, List.map_cons, List.sum_cons]
      omega
  have h1 := key ws ⟨[], []⟩
  have h2 : (⟨[], []⟩ : Wst).all.length = 0 := rfl
  unfold wrapL
  omega
theorem wordsA_ne2 (l : List UInt8) : ∀ cur w, w ∈ wordsA l cur → ¬ w = [] := by
  induction l with
  | nil =>
    intro cur w h
    unfold wordsA at h
    split at h
    · cases h
    · rw [List.mem_singleton] at h; subst h; assumption
  | cons c l ih =>
    intro cur w h
    unfold wordsA at h
    split at h
    · split at h
      · exact ih _ _ h
      · rcases List.mem_cons.1 h with rfl | h
        · assumption
        · exact ih _ _ h
    · exact ih _ _ h
theorem wordsA_sum (l : List UInt8) : ∀ cur, ((wordsA l cur).map fun w => w.length + 1).sum ≤ cur.length + l.length + 1 := by
  induction l with
  | nil =>
    intro cur
    unfold wordsA
    split
    · simp
    · simp
  | cons c l ih =>
    intro cur
    unfold wordsA
    split
    · split
      · have := ih []; simp at this ⊢; omega
      · have := ih []; simp at this ⊢; omega
    · have := ih (cur ++ [c]); simp at this ⊢; omega
end Go.Proofs.YtnemcnpilngblaaDoor

