/- Words for memory: a slice that reads as a list of elements of a fixed number of cells; small laws on worlds. No program in sight. -/
import Derived.Below
import Derived.Laws.OwnMore
import Derived.Deep.AppendLies
import Derived.Deep.Draws
import Derived.WalkKit
import Derived.WalkSpells
import Derived.WalkLawsBesides
import Derived.Lib.Hide
namespace Go.Proofs.YtnjbbkocobegiaaDoor
set_option linter.unusedVariables false
open Go.RowKit

/-- The slice value '.slice A l.length c' holds the elements l, each of 'size' cells that read 'enc x', in one block from lo on and below hi. -/
def Rs {α : Type} (w : World) (lo hi size : Nat) (enc : α → List Value) (A : Option Addr) (l : List α) : Prop :=
  0 < l.length → ∃ b off, A = some ⟨b, off, none⟩ ∧ lo ≤ b ∧ b < hi ∧ ∀ (k : Nat) (x : α), l[k]? = some x → ∀ (j : Nat) (u : Value), (enc x)[j]? = some u → w.cell? ⟨b, off + k * size + j, none⟩ = some u

section
variable {α : Type} {w w' : World} {lo lo' hi hi' B size : Nat} {enc : α → List Value} {A : Option Addr} {l : List α}
theorem Rs.nil_ : Rs w lo hi size enc A ([] : List α) := fun h => absurd h (by simp)
theorem Rs.keep (h : Rs w lo hi size enc A l) (hk : ∀ p : Addr, lo ≤ p.block → p.block < hi → w'.cell? p = w.cell? p) : Rs w' lo hi size enc A l :=
  fun hn => by
    obtain ⟨b, off, e, hb0, hb, hc⟩ := h hn
    exact ⟨b, off, e, hb0, hb, fun k x hx j u hu => (hk _ hb0 hb).trans (hc k x hx j u hu)⟩
theorem Rs.more (h : Rs w lo hi size enc A l) (hl : lo' ≤ lo) (hB : hi ≤ hi') : Rs w lo' hi' size enc A l :=
  fun hn => by
    obtain ⟨b, off, e, hb0, hb, hc⟩ := h hn
    exact ⟨b, off, e, by omega, by omega, hc⟩
theorem Rs.below (h : Rs w lo hi size enc A l) (hb : Below B w w') (hB : hi ≤ B) : Rs w' lo hi size enc A l := h.keep fun _ _ hp => hb.cell (by omega)
theorem Rs.alloc (h : Rs w lo hi size enc A l) (hB : hi ≤ w.heap.size) (o : Obj) : Rs (w.alloc o) lo hi size enc A l := h.keep fun p _ hp => World.cell?_alloc_lt w o p (by omega)
theorem Rs.setCell (h : Rs w lo hi size enc A l) {p : Addr} (hB : hi ≤ p.block ∨ p.block < lo) (u : Value) : Rs (w.setCell p u) lo hi size enc A l :=
  h.keep fun q hq hq' => World.cell?_setCell_other w p q u (fun e => by subst e; omega)
theorem Rs.grown (h : Rs w lo hi size enc A l) {g : Nat} (hg : w.grownBy w' (some g)) (hB : hi ≤ w.heap.size) (hne : hi ≤ g ∨ g < lo) : Rs w' lo hi size enc A l :=
  h.keep fun p hq hq' => World.cell?_of_block (hg.block p.block (by omega) (by simp; omega))
/-- Element k: where it lies. -/
theorem Rs.at_ (h : Rs w lo hi size enc A l) {k : Nat} (hk : k < l.length) :
    ∃ b off, A = some ⟨b, off, none⟩ ∧ lo ≤ b ∧ b < hi ∧ ∀ (j : Nat) (u : Value), (enc l[k])[j]? = some u → w.cell? ⟨b, off + k * size + j, none⟩ = some u := by
  obtain ⟨b, off, e, hb0, hb, hc⟩ := h (by omega)
  exact ⟨b, off, e, hb0, hb, hc k _ (List.getElem?_eq_getElem hk)⟩
/-- Element k of a slice of elements of one cell. -/
theorem Rs.at1 {enc1 : α → Value} (h : Rs w lo hi 1 (fun x => [enc1 x]) A l) {k : Nat} (hk : k < l.length) :
    ∃ b off, A = some ⟨b, off, none⟩ ∧ lo ≤ b ∧ b < hi ∧ w.cell? ⟨b, off + k, none⟩ = some (enc1 l[k]) := by
  obtain ⟨b, off, e, hb0, hb, hc⟩ := h.at_ hk
  exact ⟨b, off, e, hb0, hb, by simpa using hc 0 _ rfl⟩
end

/-- A call's end: an int with a property, the world as it was. -/
def RetInt (p : Int → Prop) (w : World) (e : Ending) (w' : World) : Prop := ∃ v : Int, p v ∧ e = .returned (.int .i64 v) ∧ w = w'

def intc (x : Int) : List Value := [.int .i64 x]
def strc (x : ByteArray) : List Value := [.string x]
def okI (x : Int) : Prop := -9223372036854775808 ≤ x ∧ x ≤ 9223372036854775807


/-- A place in a list as Go's functions hand it back. -/
def idxV : Option Nat → Int
  | some k => k
  | none => -1

theorem findIdx_at {α : Type} {p : α → Bool} {l : List α} {k : Nat} (h : ∀ x ∈ l.take k, p x = false) (hk : k < l.length) (hp : p l[k] = true) : l.findIdx? p = some k := by
  induction l generalizing k with
  | nil => simp at hk
  | cons y l ih =>
    cases k with
    | zero => simp at hp; simp [List.findIdx?_cons, hp]
    | succ k =>
      have h0 : p y = false := h y (by simp)
      have := ih (k := k) (fun x hx => h x (by simp [hx])) (by simpa using hk) (by simpa using hp)
      simp [List.findIdx?_cons, h0, this]
theorem findIdx_no {α : Type} {p : α → Bool} {l : List α} (h : ∀ x ∈ l, p x = false) : l.findIdx? p = none := by
  rw [List.findIdx?_eq_none_iff]; simpa using h
theorem take_next {α : Type} {q : α → Prop} {l : List α} {k : Nat} (hk : k < l.length) (h : ∀ x ∈ l.take k, q x) (hq : q l[k]) : ∀ x ∈ l.take (k + 1), q x := by
  rw [List.take_succ_eq_append_getElem hk]
  intro x hx
  rcases List.mem_append.1 hx with hx | hx
  · exact h x hx
  · simp at hx; rw [hx]; exact hq
theorem take_all {α : Type} {q : α → Prop} {l : List α} {k : Nat} (hk : ¬ k < l.length) (h : ∀ x ∈ l.take k, q x) : ∀ x ∈ l, q x := by
  rw [List.take_of_length_le (by omega)] at h; exact h
theorem intNum {k : Nat} : Value.int .i64 ((k : Int) + 1) = .int .i64 ((k + 1 : Nat) : Int) := by simp

/-- A function value that asks p of an element, whatever has been laid since w. -/
def PredC {α : Type} (P : Program) (g : Nat) (cb : Array Value) (val : α → Value) (p : α → Bool) (w : World) : Prop :=
  (∀ args W, (callFunc g args).run P W = .ok (.enter g args) W) ∧ ∀ (x : α) (W : World), Below w.heap.size w W → Calls P g (#[val x] ++ cb) W fun e w' => e = .returned (.bool (p x)) ∧ Below W.heap.size W w'
theorem beq_ba (a b : ByteArray) : (a == b) = decide (a = b) := by
  rcases a with ⟨a⟩; rcases b with ⟨b⟩
  show (a == b) = _
  rw [Bool.eq_iff_iff]; simp
theorem beqS (a b : ByteArray) : (a.toList == b.toList) = decide (a = b) := by rw [← beq_toListBytes, beq_ba]
theorem ret_bool {a b : Bool} (h : a = b) : Ending.returned (.bool a) = .returned (.bool b) := by rw [h]
theorem ret_int {k : IntKind} {a b : Int} (h : a = b) : Ending.returned (.int k a) = .returned (.int k b) := by rw [h]
theorem ret_str {a b : ByteArray} (h : a = b) : Ending.returned (.string a) = .returned (.string b) := by rw [h]

/-- What a call leaves as it was, as rules for the walk. -/
theorem bcell {B : Nat} {W w1 : World} (hb : Below B W w1) : (∀ b o, b < B → w1.cell? ⟨b, o, none⟩ = W.cell? ⟨b, o, none⟩) ∧ (∀ b o, b < B → w1.frozen? ⟨b, o, none⟩ = W.frozen? ⟨b, o, none⟩) :=
  ⟨fun b o h => hb.cell (p := ⟨b, o, none⟩) h, fun b o h => hb.frozen (p := ⟨b, o, none⟩) h⟩

/-- All bytes of a string have p. -/
def allB (p : UInt8 → Bool) (s : ByteArray) : Bool := s.data.toList.all p
theorem allB_no {p : UInt8 → Bool} {s : ByteArray} {k : Nat} (hk : k < s.size) (h : p s[k] = false) : allB p s = false := by
  unfold allB
  rw [List.all_eq_false]
  exact ⟨s[k], by rw [show s[k] = s.data.toList[k]'(by simpa using hk) from rfl]; exact List.getElem_mem _, by simp [h]⟩
theorem allB_yes {p : UInt8 → Bool} {s : ByteArray} {k : Nat} (hk : ¬ k < s.size) (h : ∀ x ∈ s.data.toList.take k, p x = true) : allB p s = true := by
  unfold allB
  rw [List.all_eq_true]
  exact take_all (by simpa using hk) h
theorem allB_next {p : UInt8 → Bool} {s : ByteArray} {k : Nat} (hk : k < s.size) (h : ∀ x ∈ s.data.toList.take k, p x = true) (hp : p s[k] = true) : ∀ x ∈ s.data.toList.take (k + 1), p x = true :=
  take_next (q := fun x => p x = true) (by simpa using hk) h hp

/-- A call that leaves the world, inside a region that draws its order. -/
theorem quietL {P : Program} {f : FuncId} {args : Array Value} {w : World} {n : Nat} {v : Value} (h : Calls P f args (w.drewN n) fun e w' => e = .returned v ∧ w.drewN n = w') :
    Calls P f args (w.drewN n) fun e w'' => e = .returned v ∧ ∃ m, w'' = w.drewN m := h.mono fun _ _ ⟨he, hm⟩ => ⟨he, n, hm.symm⟩
theorem below_drewN {B : Nat} {a w : World} (h : Below B a w) (n : Nat) : Below B a (w.drewN n) := ⟨h.os, h.tape, h.output, h.size, h.block⟩

/-- Two tests of a byte that agree at each of the 256. -/
theorem u8_eq {p q : UInt8 → Bool} (h : ((List.range 256).all fun n => p (UInt8.ofNat n) == q (UInt8.ofNat n)) = true) : ∀ c, p c = q c := by
  intro c
  rw [List.all_eq_true] at h
  have := h c.toNat (List.mem_range.2 c.toNat_lt)
  simpa using this
theorem allB_congr {p q : UInt8 → Bool} (h : ((List.range 256).all fun n => p (UInt8.ofNat n) == q (UInt8.ofNat n)) = true) (s : ByteArray) : allB p s = allB q s := by
  rw [show p = q from funext (u8_eq h)]

theorem Rs.take {α : Type} {w : World} {lo hi size : Nat} {enc : α → List Value} {A : Option Addr} {l : List α} (h : Rs w lo hi size enc A l) (k : Nat) : Rs w lo hi size enc A (l.take k) :=
  fun hn => by
    obtain ⟨b, off, e, hb0, hb, hc⟩ := h (by simp at hn; omega)
    refine ⟨b, off, e, hb0, hb, fun j x hx => hc j x ?_⟩
    rw [List.getElem?_take] at hx
    split at hx
    · exact hx
    · cases hx
theorem idxV_any {α : Type} (p : α → Bool) (l : List α) : decide (0 ≤ idxV (l.findIdx? p)) = l.any p := by
  cases h : l.findIdx? p with
  | none =>
    rw [List.findIdx?_eq_none_iff] at h
    have : l.any p = false := by rw [List.any_eq_false]; intro x hx; simp [h x hx]
    rw [this]; rfl
  | some k =>
    rw [List.findIdx?_eq_some_iff_getElem] at h
    obtain ⟨hk, hp, _⟩ := h
    have : l.any p = true := by rw [List.any_eq_true]; exact ⟨_, List.getElem_mem hk, hp⟩
    rw [this]
    simp [idxV]
end Go.Proofs.YtnjbbkocobegiaaDoor
