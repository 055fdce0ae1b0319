/- Files, manifests and copies, in plain words. No program in sight. -/
import Derived.Test.YtnjbbkocobegiaaDoorHexS
import Derived.Test.YtnjbbkocobegiaaDoorRep
namespace Go.Proofs.YtnjbbkocobegiaaDoor
set_option linter.unusedVariables false
open Go.RowKit

structure Copied where
  name : ByteArray
  size : Int
  sum : ByteArray
theorem Copied.ext_iff' {a b : Copied} : a = b ↔ a.name = b.name ∧ a.size = b.size ∧ a.sum = b.sum := by
  constructor
  · rintro rfl; exact ⟨rfl, rfl, rfl⟩
  · rintro ⟨h1, h2, h3⟩; cases a; cases b; simp at h1 h2 h3; subst h1; subst h2; subst h3; rfl
def Copied.cells (x : Copied) : List Value := [.string x.name, .int .i64 x.size, .string x.sum]
def Copied.val (x : Copied) : Value := .agg #[.string x.name, .int .i64 x.size, .string x.sum]
def copR : Rep Copied := Rep.flat 3 Copied.cells (fun _ => rfl)
def Copied.eqB (a b : Copied) : Bool := decide (a.name = b.name) && decide (a.size = b.size) && decide (a.sum = b.sum)
theorem Copied.eqB_iff {a b : Copied} : a.eqB b = true ↔ a = b := by rw [Copied.ext_iff']; simp [Copied.eqB, and_assoc]

def fileC (c : UInt8) : Bool := (decide (97 ≤ c.toNat) && decide (c.toNat ≤ 122)) || (decide (48 ≤ c.toNat) && decide (c.toNat ≤ 57)) || decide (c.toNat = 46) || decide (c.toNat = 95) || decide (c.toNat = 45)
def fileB (s : ByteArray) : Bool := decide (1 ≤ s.size ∧ s.size ≤ 40) && allB fileC s
def hexC (c : UInt8) : Bool := (decide (48 ≤ c.toNat) && decide (c.toNat ≤ 57)) || (decide (97 ≤ c.toNat) && decide (c.toNat ≤ 102))
/-- The error of a name behind others. -/
def nameF (pre : List ByteArray) (s : ByteArray) : Int := if fileB s = false then 5 else if (pre.any fun y => decide (y = s)) = true then 6 else 0
def namesFrom : List ByteArray → List ByteArray → Int
  | _, [] => 0
  | pre, s :: rest => if nameF pre s = 0 then namesFrom (pre ++ [s]) rest else nameF pre s
def namesF (l : List ByteArray) : Int := namesFrom [] l
theorem namesFrom_step (l : List ByteArray) (k : Nat) (hk : k < l.length) :
    namesFrom (l.take k) (l.drop k) = if nameF (l.take k) l[k] = 0 then namesFrom (l.take (k + 1)) (l.drop (k + 1)) else nameF (l.take k) l[k] := by
  rw [List.drop_eq_getElem_cons hk, namesFrom, List.take_succ_eq_append_getElem hk]
theorem namesFrom_end (l : List ByteArray) (k : Nat) (hk : l.length ≤ k) : namesFrom (l.take k) (l.drop k) = 0 := by
  rw [List.drop_eq_nil_of_le hk, namesFrom]
/-- One name more. -/
theorem namesFrom_snoc (l : List ByteArray) (x : ByteArray) : ∀ pre, namesFrom pre l = 0 → namesFrom pre (l ++ [x]) = nameF (pre ++ l) x := by
  induction l with
  | nil => intro pre _; simp [namesFrom]; intro h; rw [h]
  | cons y l ih =>
    intro pre h
    rw [namesFrom] at h
    by_cases hy : nameF pre y = 0
    · rw [if_pos hy] at h
      rw [List.cons_append, namesFrom, if_pos hy, ih _ h, List.append_assoc]; rfl
    · rw [if_neg hy] at h; exact absurd h hy
def manE (names data : List ByteArray) : Int := if names.length ≠ data.length then 3 else if 500 < names.length then 2 else namesF names
def manAll (names data : List ByteArray) : List Copied := (names.zip data).map fun x => ⟨x.1, x.2.size, digestB x.2⟩
def manL (names data : List ByteArray) : List Copied := if manE names data = 0 then manAll names data else []
/-- The error of a copy behind others. -/
def copyF (pre : List ByteArray) (c : Copied) : Int := if nameF pre c.name ≠ 0 then nameF pre c.name else if c.size < 0 then 1 else if c.sum.size ≠ 16 then 3 else if allB hexC c.sum = false then 3 else 0
def copiesFrom : List ByteArray → List Copied → Int
  | _, [] => 0
  | pre, c :: rest => if copyF pre c = 0 then copiesFrom (pre ++ [c.name]) rest else copyF pre c
def copiesF (l : List Copied) : Int := copiesFrom [] l
theorem copiesFrom_step (l : List Copied) (k : Nat) (hk : k < l.length) :
    copiesFrom ((l.take k).map (·.name)) (l.drop k) = if copyF ((l.take k).map (·.name)) l[k] = 0 then copiesFrom ((l.take (k + 1)).map (·.name)) (l.drop (k + 1)) else copyF ((l.take k).map (·.name)) l[k] := by
  rw [List.drop_eq_getElem_cons hk, copiesFrom, List.take_succ_eq_append_getElem hk, List.map_append]; rfl
theorem copiesFrom_end (l : List Copied) (k : Nat) (pre : List ByteArray) (hk : l.length ≤ k) : copiesFrom pre (l.drop k) = 0 := by
  rw [List.drop_eq_nil_of_le hk, copiesFrom]
def hasName (l : List Copied) (s : ByteArray) : Bool := l.any fun y => decide (y.name = s)
def copyAt (l : List Copied) (s : ByteArray) : Option Copied := l.find? fun y => decide (y.name = s)
def lostL (a b : List Copied) : List ByteArray := (a.filter fun x => !hasName b x.name).map (·.name)
def spoiltB (b : List Copied) (x : Copied) : Bool := match copyAt b x.name with
  | some y => !y.eqB x
  | none => false
def spoiltL (a b : List Copied) : List ByteArray := (a.filter (spoiltB b)).map (·.name)
def cmpE (a b : List Copied) : Int := if 500 < a.length ∨ 500 < b.length then 2 else if copiesF a ≠ 0 then copiesF a else copiesF b
end Go.Proofs.YtnjbbkocobegiaaDoor
