/- Numerals read by the program and by the reference. -/
import Derived.Test.YtnjbbkocobegiaaDoorRows
import Derived.Test.YtnjbbkocobegiaaDoorAtoiW
import Derived.Test.YtnjbbkocobegiaaDoorRefA
import Derived.Test.YtnjbbkocobegiaaDoorDecS
import Derived.Test.YtnjbbkocobegiaaDoorCutS
import Derived.Shelf.Strconv.Itoa3
namespace Go.Proofs.YtnjbbkocobegiaaDoor
set_option linter.unusedVariables false
open Go.RowKit Go.Sort

/-- The table of powers of ten lies where it was laid. -/
def PowLaid (w : World) : Prop := Lib.TabIs Tryd.prog w "internal/strconv.uint64pow10" .u64 Lib.pow10Tab
theorem pow_below {w w' : World} {B : Nat} (h : PowLaid w) (hb : Below B w w') (hB : w.heap.size ≤ B) : PowLaid w' :=
  Joins.tab_stays (g := 0) (by kernel_rfl) h hb hB
theorem below_grow {w w' : World} {k : Nat} {os : Array Obj} (h : w' = grow (w.drewN k) os) : Below w.heap.size w w' := by
  subst h
  exact below_regrown w (w.drawn + k) os
theorem itoa_c (n : Int) (w : World) (hn : okI n) (hp : PowLaid w) : Calls Tryd.prog 49 #[.int .i64 n] w fun e w' => e = .returned (.string ⟨(Lib.itoa n).toArray⟩) ∧ Below w.heap.size w w' :=
  (Any.strconv_Itoa Tryd.laysM171 n hn.1 hn.2 w hp).mono fun _ _ ⟨he, k, os, hw⟩ => ⟨he, below_grow hw⟩

/-- strings.Trim at the figures: empty just where all bytes are figures. -/
def TrimF (s : ByteArray) (w : World) (e : Ending) (w' : World) : Prop := ∃ t : ByteArray, e = .returned (.string t) ∧ (allB figC s = true → t = ⟨#[]⟩) ∧ (allB figC s = false → t.toList.isEmpty = false) ∧ Below w.heap.size w w'
theorem figC_eq (s : ByteArray) : allB (([48, 49, 50, 51, 52, 53, 54, 55, 56, 57] : List UInt8).contains ·) s = allB figC s := allB_congr (by decide +kernel) s
theorem trimF_c (s : ByteArray) (w : World) (hs : s.size ≤ 140737488355328) : Calls Tryd.prog 43 #[.string s, .string ⟨#[48, 49, 50, 51, 52, 53, 54, 55, 56, 57]⟩] w (TrimF s w) := by
  refine (trim_c s _ w hs (by decide) (by decide)).mono ?_
  rintro e w' ⟨he, hb⟩
  refine ⟨_, he, fun h => ?_, fun h => ?_, hb⟩
  · rw [← figC_eq] at h
    rw [(trimS_nil _ _).2 h]
  · rw [toList_mk]
    rw [← figC_eq] at h
    cases hd : Lib.trimS s.data.toList (ByteArray.mk #[48, 49, 50, 51, 52, 53, 54, 55, 56, 57]).data.toList with
    | nil => have := (trimS_nil _ _).1 hd; rw [show s.data.toList.all _ = allB _ s from rfl] at this; rw [this] at h; cases h
    | cons y t => rfl

def decA (s : ByteArray) (most : Int) : Int := bif decB s most then decV s else 0
/-- How the reference reads a number of at most so many digits. -/
def NumP (s : ByteArray) (most n : Int) (ok : Bool) : Prop :=
  (ok = true → Lib.itoa n = s.data.toList ∧ okI n ∧ ((Lib.trimPrefix s.data.toList [45]).length : Int) ≤ most) ∧ (ok = false → ∀ m, okI m → Lib.itoa m = s.data.toList → ¬ ((Lib.trimPrefix s.data.toList [45]).length : Int) ≤ most)
def NumR (s : ByteArray) (most : Int) (w : World) (e : Ending) (w' : World) : Prop := ∃ n ok, NumP s most n ok ∧ e = .returned (.tuple #[.int .i64 n, .bool ok]) ∧ Below w.heap.size w w'
theorem mk_size (l : List UInt8) : (⟨l.toArray⟩ : ByteArray).size = l.length := rfl
theorem trimPrefix_len (l p : List UInt8) : (Lib.trimPrefix l p).length ≤ l.length := by
  unfold Lib.trimPrefix; split
  · simp
  · exact Nat.le_refl _
theorem itoa_ok {s : ByteArray} {n m : Int} (h : Lib.atoiAll s.data.toList = .ok n) (hm : okI m) (e : Lib.itoa m = s.data.toList) : n = m := by
  rw [← e, atoi_itoa m hm] at h
  injection h with h; exact h.symm
end Go.Proofs.YtnjbbkocobegiaaDoor
