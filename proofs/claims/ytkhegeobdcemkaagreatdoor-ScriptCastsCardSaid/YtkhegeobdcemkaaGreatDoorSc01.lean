/- Texts packed: Mem, Args, ByB, DecS, Gen, HexS, Map, MapG, OpMap, QStore, QSegs, QSegs2, QSegs3, QTail, Rep, FilesS, Own, Own2, Own3, PushI, RollS, CodeS, CodeV. -/
import Derived.Below
import Derived.Laws.OwnMore
import Derived.Deep.AppendLies
import Derived.Deep.Draws
import Derived.WalkKit
import Derived.WalkSpells
import Derived.WalkLawsBesides
import Derived.Lib.Hide
import Derived.ProofKit
import Derived.OpenShut
import Derived.SizedLaws
import Derived.SliceStrings
import Derived.Lib.ConvBytes
import Derived.Laws.BytesArg
import Derived.Lib.AtoiAll
import Derived.Lib.ItoaNum
import Derived.Test.YtkhegeobdcemkaaGreatDoorRows
import Derived.BigQuiet
import Derived.Deep.QuietTactic
import Derived.Maps.OwnOps
import Derived.Maps.OwnSet
import Derived.RegionTactic
import Derived.OrdersHeld
import Derived.Deep.Quiet
import Derived.StillTail
import Derived.Orders
import Derived.Lib.QuietBelow
import Derived.Lib.FieldsP
/- Words for memory: a slice that reads as a list of elements of a fixed number of cells; small laws on worlds. No program in sight. -/
namespace Go.Proofs.YtkhegeobdcemkaaGreatDoor
set_option linter.unusedVariables false
open Go.RowKit

/-- The slice value '.slice A l.length c' holds the elements l, each of 'size' cells that read 'enc x', in one block from lo on and below hi. -/
def Rs {α : Type} (w : World) (lo hi size : Nat) (enc : α → List Value) (A : Option Addr) (l : List α) : Prop :=
  0 < l.length → ∃ b off, A = some ⟨b, off, none⟩ ∧ lo ≤ b ∧ b < hi ∧ ∀ (k : Nat) (x : α), l[k]? = some x → ∀ (j : Nat) (u : Value), (enc x)[j]? = some u → w.cell? ⟨b, off + k * size + j, none⟩ = some u

section
variable {α : Type} {w w' : World} {lo lo' hi hi' B size : Nat} {enc : α → List Value} {A : Option Addr} {l : List α}
theorem Rs.nil_ : Rs w lo hi size enc A ([] : List α) := fun h => absurd h (by simp)
theorem Rs.keep (h : Rs w lo hi size enc A l) (hk : ∀ p : Addr, lo ≤ p.block → p.block < hi → w'.cell? p = w.cell? p) : Rs w' lo hi size enc A l :=
  fun hn => by
    obtain ⟨b, off, e, hb0, hb, hc⟩ := h hn
    exact ⟨b, off, e, hb0, hb, fun k x hx j u hu => (hk _ hb0 hb).trans (hc k x hx j u hu)⟩
theorem Rs.more (h : Rs w lo hi size enc A l) (hl : lo' ≤ lo) (hB : hi ≤ hi') : Rs w lo' hi' size enc A l :=
  fun hn => by
    obtain ⟨b, off, e, hb0, hb, hc⟩ := h hn
    exact ⟨b, off, e, by omega, by omega, hc⟩
theorem Rs.below (h : Rs w lo hi size enc A l) (hb : Below B w w') (hB : hi ≤ B) : Rs w' lo hi size enc A l := h.keep fun _ _ hp => hb.cell (by omega)
theorem Rs.alloc (h : Rs w lo hi size enc A l) (hB : hi ≤ w.heap.size) (o : Obj) : Rs (w.alloc o) lo hi size enc A l := h.keep fun p _ hp => World.cell?_alloc_lt w o p (by omega)
theorem Rs.setCell (h : Rs w lo hi size enc A l) {p : Addr} (hB : hi ≤ p.block ∨ p.block < lo) (u : Value) : Rs (w.setCell p u) lo hi size enc A l :=
  h.keep fun q hq hq' => World.cell?_setCell_other w p q u (fun e => by subst e; omega)
theorem Rs.grown (h : Rs w lo hi size enc A l) {g : Nat} (hg : w.grownBy w' (some g)) (hB : hi ≤ w.heap.size) (hne : hi ≤ g ∨ g < lo) : Rs w' lo hi size enc A l :=
  h.keep fun p hq hq' => World.cell?_of_block (hg.block p.block (by omega) (by simp; omega))
/-- Element k: where it lies. -/
theorem Rs.at_ (h : Rs w lo hi size enc A l) {k : Nat} (hk : k < l.length) :
    ∃ b off, A = some ⟨b, off, none⟩ ∧ lo ≤ b ∧ b < hi ∧ ∀ (j : Nat) (u : Value), (enc l[k])[j]? = some u → w.cell? ⟨b, off + k * size + j, none⟩ = some u := by
  obtain ⟨b, off, e, hb0, hb, hc⟩ := h (by omega)
  exact ⟨b, off, e, hb0, hb, hc k _ (List.getElem?_eq_getElem hk)⟩
/-- Element k of a slice of elements of one cell. -/
theorem Rs.at1 {enc1 : α → Value} (h : Rs w lo hi 1 (fun x => [enc1 x]) A l) {k : Nat} (hk : k < l.length) :
    ∃ b off, A = some ⟨b, off, none⟩ ∧ lo ≤ b ∧ b < hi ∧ w.cell? ⟨b, off + k, none⟩ = some (enc1 l[k]) := by
  obtain ⟨b, off, e, hb0, hb, hc⟩ := h.at_ hk
  exact ⟨b, off, e, hb0, hb, by simpa using hc 0 _ rfl⟩
end

/-- A call's end: an int with a property, the world as it was. -/
def RetInt (p : Int → Prop) (w : World) (e : Ending) (w' : World) : Prop := ∃ v : Int, p v ∧ e = .returned (.int .i64 v) ∧ w = w'

def intc (x : Int) : List Value := [.int .i64 x]
def strc (x : ByteArray) : List Value := [.string x]
def okI (x : Int) : Prop := -9223372036854775808 ≤ x ∧ x ≤ 9223372036854775807


/-- A place in a list as Go's functions hand it back. -/
def idxV : Option Nat → Int
  | some k => k
  | none => -1

theorem findIdx_at {α : Type} {p : α → Bool} {l : List α} {k : Nat} (h : ∀ x ∈ l.take k, p x = false) (hk : k < l.length) (hp : p l[k] = true) : l.findIdx? p = some k := by
  induction l generalizing k with
  | nil => simp at hk
  | cons y l ih =>
    cases k with
    | zero => simp at hp; simp [List.findIdx?_cons, hp]
    | succ k =>
      have h0 : p y = false := h y (by simp)
      have := ih (k := k) (fun x hx => h x (by simp [hx])) (by simpa using hk) (by simpa using hp)
      simp [List.findIdx?_cons, h0, this]
theorem findIdx_no {α : Type} {p : α → Bool} {l : List α} (h : ∀ x ∈ l, p x = false) : l.findIdx? p = none := by
  rw [List.findIdx?_eq_none_iff]; simpa using h
theorem take_next {α : Type} {q : α → Prop} {l : List α} {k : Nat} (hk : k < l.length) (h : ∀ x ∈ l.take k, q x) (hq : q l[k]) : ∀ x ∈ l.take (k + 1), q x := by
  rw [List.take_succ_eq_append_getElem hk]
  intro x hx
  rcases List.mem_append.1 hx with hx | hx
  · exact h x hx
  · simp at hx; rw [hx]; exact hq
theorem take_all {α : Type} {q : α → Prop} {l : List α} {k : Nat} (hk : ¬ k < l.length) (h : ∀ x ∈ l.take k, q x) : ∀ x ∈ l, q x := by
  rw [List.take_of_length_le (by omega)] at h; exact h
theorem intNum {k : Nat} : Value.int .i64 ((k : Int) + 1) = .int .i64 ((k + 1 : Nat) : Int) := by simp

/-- A function value that asks p of an element, whatever has been laid since w. -/
def PredC {α : Type} (P : Program) (g : Nat) (cb : Array Value) (val : α → Value) (p : α → Bool) (w : World) : Prop :=
  (∀ args W, (callFunc g args).run P W = .ok (.enter g args) W) ∧ ∀ (x : α) (W : World), Below w.heap.size w W → Calls P g (#[val x] ++ cb) W fun e w' => e = .returned (.bool (p x)) ∧ Below W.heap.size W w'
theorem beq_ba (a b : ByteArray) : (a == b) = decide (a = b) := by
  rcases a with ⟨a⟩; rcases b with ⟨b⟩
  show (a == b) = _
  rw [Bool.eq_iff_iff]; simp
theorem beqS (a b : ByteArray) : (a.toList == b.toList) = decide (a = b) := by rw [← beq_toListBytes, beq_ba]
theorem ret_bool {a b : Bool} (h : a = b) : Ending.returned (.bool a) = .returned (.bool b) := by rw [h]
theorem ret_int {k : IntKind} {a b : Int} (h : a = b) : Ending.returned (.int k a) = .returned (.int k b) := by rw [h]
theorem ret_str {a b : ByteArray} (h : a = b) : Ending.returned (.string a) = .returned (.string b) := by rw [h]

/-- What a call leaves as it was, as rules for the walk. -/
theorem bcell {B : Nat} {W w1 : World} (hb : Below B W w1) : (∀ b o, b < B → w1.cell? ⟨b, o, none⟩ = W.cell? ⟨b, o, none⟩) ∧ (∀ b o, b < B → w1.frozen? ⟨b, o, none⟩ = W.frozen? ⟨b, o, none⟩) :=
  ⟨fun b o h => hb.cell (p := ⟨b, o, none⟩) h, fun b o h => hb.frozen (p := ⟨b, o, none⟩) h⟩

/-- All bytes of a string have p. -/
def allB (p : UInt8 → Bool) (s : ByteArray) : Bool := s.data.toList.all p
theorem allB_no {p : UInt8 → Bool} {s : ByteArray} {k : Nat} (hk : k < s.size) (h : p s[k] = false) : allB p s = false := by
  unfold allB
  rw [List.all_eq_false]
  exact ⟨s[k], by rw [show s[k] = s.data.toList[k]'(by simpa using hk) from rfl]; exact List.getElem_mem _, by simp [h]⟩
theorem allB_yes {p : UInt8 → Bool} {s : ByteArray} {k : Nat} (hk : ¬ k < s.size) (h : ∀ x ∈ s.data.toList.take k, p x = true) : allB p s = true := by
  unfold allB
  rw [List.all_eq_true]
  exact take_all (by simpa using hk) h
theorem allB_next {p : UInt8 → Bool} {s : ByteArray} {k : Nat} (hk : k < s.size) (h : ∀ x ∈ s.data.toList.take k, p x = true) (hp : p s[k] = true) : ∀ x ∈ s.data.toList.take (k + 1), p x = true :=
  take_next (q := fun x => p x = true) (by simpa using hk) h hp

/-- A call that leaves the world, inside a region that draws its order. -/
theorem quietL {P : Program} {f : FuncId} {args : Array Value} {w : World} {n : Nat} {v : Value} (h : Calls P f args (w.drewN n) fun e w' => e = .returned v ∧ w.drewN n = w') :
    Calls P f args (w.drewN n) fun e w'' => e = .returned v ∧ ∃ m, w'' = w.drewN m := h.mono fun _ _ ⟨he, hm⟩ => ⟨he, n, hm.symm⟩
theorem below_drewN {B : Nat} {a w : World} (h : Below B a w) (n : Nat) : Below B a (w.drewN n) := ⟨h.os, h.tape, h.output, h.size, h.block⟩

/-- Two tests of a byte that agree at each of the 256. -/
theorem u8_eq {p q : UInt8 → Bool} (h : ((List.range 256).all fun n => p (UInt8.ofNat n) == q (UInt8.ofNat n)) = true) : ∀ c, p c = q c := by
  intro c
  rw [List.all_eq_true] at h
  have := h c.toNat (List.mem_range.2 c.toNat_lt)
  simpa using this
theorem allB_congr {p q : UInt8 → Bool} (h : ((List.range 256).all fun n => p (UInt8.ofNat n) == q (UInt8.ofNat n)) = true) (s : ByteArray) : allB p s = allB q s := by
  rw [show p = q from funext (u8_eq h)]

theorem Rs.take {α : Type} {w : World} {lo hi size : Nat} {enc : α → List Value} {A : Option Addr} {l : List α} (h : Rs w lo hi size enc A l) (k : Nat) : Rs w lo hi size enc A (l.take k) :=
  fun hn => by
    obtain ⟨b, off, e, hb0, hb, hc⟩ := h (by simp at hn; omega)
    refine ⟨b, off, e, hb0, hb, fun j x hx => hc j x ?_⟩
    rw [List.getElem?_take] at hx
    split at hx
    · exact hx
    · cases hx
theorem idxV_any {α : Type} (p : α → Bool) (l : List α) : decide (0 ≤ idxV (l.findIdx? p)) = l.any p := by
  cases h : l.findIdx? p with
  | none =>
    rw [List.findIdx?_eq_none_iff] at h
    have : l.any p = false := by rw [List.any_eq_false]; intro x hx; simp [h x hx]
    rw [this]; rfl
  | some k =>
    rw [List.findIdx?_eq_some_iff_getElem] at h
    obtain ⟨hk, hp, _⟩ := h
    have : l.any p = true := by rw [List.any_eq_true]; exact ⟨_, List.getElem_mem hk, hp⟩
    rw [this]
    simp [idxV]
end Go.Proofs.YtkhegeobdcemkaaGreatDoor

/- A law's arguments, opened: a slice of ints, a string, a slice of strings. No program in sight. -/
namespace Go.Proofs.YtkhegeobdcemkaaGreatDoor
set_option linter.unusedVariables false
open Go.ChangeShapes Go.WideShapes Go.ChangeAt Go.RowKit

section
variable {H : Type} {enc : TypeId × Value → H} {P : Program} {W : World}
theorem argInts {t e : TypeId} {a : Option Addr} {len cap : Nat} {d : DataW H} {p : List MemPlace} {ts : List TypeId} {ds : List (DataW H)} {j : Nat} (ht : P.underlying t = some (.slice e)) (he : P.underlying e = some (.int .i64)) (hc : P.cellsOf e = 1) (hb : P.bytesOf e = 8)
    (h : DataW.Trod enc P W 0 (fun _ => true) true t (.slice a len cap) d p) (hlt : ∀ x ∈ p, x.block < W.heap.size) (hw : (DataW.weightsEach P ts ds).all (· ≤ reachBytes) = true) (hj : ts[j]? = some t) (hd : ds[j]? = some d) :
    ∃ l : List Int, l.length = len ∧ Rs W 0 W.heap.size 1 intc a l ∧ l.length ≤ 17592186044416 ∧ ∀ x ∈ l, okI x := by
  obtain ⟨fuel, hf⟩ := h
  rcases open_ints ht he hc hf with ⟨hcs, _⟩ | ⟨x, l, c, zs, hcs, _, hl, hm, hz, hx, hcell, hwz⟩
  · simp [Value.cells] at hcs
    obtain ⟨rfl, rfl, rfl⟩ := hcs
    exact ⟨[], rfl, Rs.nil_, by simp, by simp⟩
  · simp [Value.cells] at hcs
    obtain ⟨rfl, rfl, rfl⟩ := hcs
    simp only [if_true] at hz
    simp only [Prod.mk.injEq] at hx
    obtain ⟨rfl, rfl⟩ := hx
    have hs := sized_slice hw hj hd ht
    rw [hb] at hs
    have hs2 : zs.length * 8 ≤ reachBytes := by
      have e1 : (lits (H := H) IntKind.i64 (zs.take len)).length + (lits (H := H) IntKind.i64 (zs.drop len)).length = zs.length := by simp [lits]; omega
      rw [e1] at hs; exact hs
    have hr := reachBytes_lt
    have hlen : (zs.take len).length = len := by simp; omega
    refine ⟨zs.take len, hlen, ?_, by omega, fun x hx => ?_⟩
    · intro hn
      obtain ⟨b, off, rfl, hcc⟩ := ints_at hcell (by simp at hn; omega)
      refine ⟨b, off, rfl, Nat.zero_le _, ?_, fun k y hy i u hu => ?_⟩
      · exact hlt (.cell b off) (by
          unfold MemPlace.row
          simp at hn ⊢
          omega)
      · cases i with
        | succ i => simp [intc] at hu
        | zero =>
          simp [intc] at hu
          subst hu
          have hk : k < zs.length ∧ zs[k]? = some y := by
            rw [List.getElem?_take] at hy
            split at hy
            · exact ⟨(List.getElem?_eq_some_iff.1 hy).1, hy⟩
            · cases hy
          have := hcc k hk.1
          rw [List.getD_eq_getElem?_getD, hk.2] at this
          simpa using this
    · have := hwz x (List.mem_of_mem_take hx)
      have hb := bounds_i64 this
      exact ⟨by omega, by omega⟩
theorem argString {ts : List TypeId} {ds : List (DataW H)} {j : Nat} {t : TypeId} {s : ByteArray} (hw : (DataW.weightsEach P ts ds).all (· ≤ reachBytes) = true) (hj : ts[j]? = some t) (hd : ds[j]? = some (.lit (.string s.data.toList))) : s.size ≤ 140737488355328 := by
  have hs := sized_string hw hj hd
  have hr := reachBytes_lt
  have : s.size = s.data.toList.length := by simp
  omega
end
end Go.Proofs.YtkhegeobdcemkaaGreatDoor

/- Bytes of one's own, in a block that []byte(s) has made. No program in sight. -/
namespace Go.Proofs.YtkhegeobdcemkaaGreatDoor
set_option linter.unusedVariables false
open Go.RowKit

/-- Since w only what is new has changed, and block B holds n bytes. -/
def ByB (w wx : World) (B n : Nat) : Prop :=
  w.heap.size ≤ B ∧ Below w.heap.size w wx ∧ ∃ l : List Int, l.length = n ∧ (∀ x ∈ l, 0 ≤ x ∧ x < 256) ∧ ∀ j u, l[j]? = some u → wx.cell? ⟨B, j, none⟩ = some (.int .u8 u) ∧ wx.frozen? ⟨B, j, none⟩ = false
theorem frozen_of {w : World} {b n : Nat} {cs : Array Value} {T : TypeId} (h : w.heap[b]? = some (.cells cs T (n, n + 1))) (i : Nat) (hi : i < n) : w.frozen? ⟨b, i, none⟩ = false := by
  simp [World.frozen?, h]; omega
theorem ByB.start (w wx : World) (e : TypeId) (s : ByteArray) (hb : Below w.heap.size w wx) : ByB w (Lib.bytesWorld wx e s) wx.heap.size s.size := by
  refine ⟨hb.size, ⟨hb.os, hb.tape, hb.output, by rw [Lib.bytesWorld_size]; have := hb.size; omega, fun i hi => (Lib.bytesWorld_at_old wx e s i (by have := hb.size; omega)).trans (hb.block i hi)⟩, (s.data.toList.map fun c => (c.toNat : Int)), by simp, ?_, fun j u hj => ?_⟩
  · intro x hx
    obtain ⟨c, _, rfl⟩ := List.mem_map.1 hx
    have := c.toNat_lt
    omega
  · have hjs : j < s.size := by
      have := (List.getElem?_eq_some_iff.1 hj).1
      simpa using this
    refine ⟨?_, frozen_of (Lib.bytesWorld_at_new wx e s) j ?_⟩
    · rw [Lib.bytesWorld_cell wx e s j hjs]
      rw [List.getElem?_map] at hj
      have h2 : s.data.toList[j]? = some (s.data.toList[j]'(by simpa using hjs)) := List.getElem?_eq_getElem _
      rw [h2] at hj
      simp at hj
      simp [List.getD, hjs, hj]
    · unfold Lib.bytesCells
      simp
      have : s.data.size = s.size := rfl
      omega
section
variable {w wx wy : World} {B n : Nat}
theorem ByB.at_ (h : ByB w wx B n) (k : Nat) (hk : k < n) : ∃ x : Int, 0 ≤ x ∧ x < 256 ∧ wx.cell? ⟨B, k, none⟩ = some (.int .u8 x) ∧ wx.frozen? ⟨B, k, none⟩ = false := by
  obtain ⟨_, _, l, hl, hx, hc⟩ := h
  have hk' : k < l.length := by omega
  have := hc k _ (List.getElem?_eq_getElem hk')
  exact ⟨_, (hx _ (List.getElem_mem hk')).1, (hx _ (List.getElem_mem hk')).2, this.1, this.2⟩
theorem frozen_setCell (w : World) (p q : Addr) (v : Value) : (w.setCell p v).frozen? q = w.frozen? q := by
  unfold World.frozen? World.setCell
  by_cases h : p.block = q.block
  · rw [← h]
    simp only [Array.getElem?_modify, if_pos]
    cases w.heap[p.block]? with
    | none => rfl
    | some o => cases o <;> rfl
  · simp only [Array.getElem?_modify, if_neg h]
theorem ByB.set (h : ByB w wx B n) (k : Nat) (hk : k < n) (u : Int) (h0 : 0 ≤ u) (h1 : u < 256) : ByB w (wx.setCell ⟨B, k, none⟩ (.int .u8 u)) B n := by
  obtain ⟨hB, hb, l, hl, hx, hc⟩ := h
  refine ⟨hB, ⟨hb.os, hb.tape, hb.output, by simpa [World.setCell] using hb.size, fun i hi => (Below.heap_setCell wx _ _ i (by show i ≠ B; omega)).trans (hb.block i hi)⟩, l.set k u, by rw [List.length_set]; exact hl, fun x hx' => ?_, fun j y hj => ?_⟩
  · rcases List.mem_or_eq_of_mem_set hx' with h | h
    · exact hx x h
    · subst h; exact ⟨h0, h1⟩
  · rw [List.getElem?_set] at hj
    by_cases e : k = j
    · subst e
      rw [if_pos rfl, if_pos (by omega)] at hj
      injection hj with hj
      subst hj
      have := hc k _ (List.getElem?_eq_getElem (by omega : k < l.length))
      exact ⟨World.cell?_setCell_same wx _ _ this.1, (frozen_setCell wx _ _ _).trans this.2⟩
    · rw [if_neg e] at hj
      have := hc j y hj
      exact ⟨(World.cell?_setCell_other wx _ _ _ (fun h => e (by injection h))).trans this.1, (frozen_setCell wx _ _ _).trans this.2⟩
theorem ByB.str (h : ByB w wx B n) (P : Program) (src dst e : TypeId) (c : Nat) (hs : P.underlying src = some (.slice e)) (he : P.underlying e = some (.int .u8)) (hd : P.underlying dst = some .string) :
    ∃ z : ByteArray, z.size = n ∧ (convert src dst (.slice (some ⟨B, 0, none⟩) n c)).run P wx = .ok (.string z) wx := by
  obtain ⟨hB, hb, l, hl, hx, hc⟩ := h
  refine ⟨_, ?_, run_convert_bytes_arg wx src e hs he B 0 n c l hl (fun i hi => ?_) dst hd⟩
  · rw [strOfNums_size, hl]
  · have := (hc i _ (List.getElem?_eq_getElem (by omega : i < l.length))).1
    rw [Nat.zero_add, this]
    simp [List.getD, List.getElem?_eq_getElem (by omega : i < l.length)]
end
end Go.Proofs.YtkhegeobdcemkaaGreatDoor

/- Decimal numerals, in plain words. No program in sight. -/
namespace Go.Proofs.YtkhegeobdcemkaaGreatDoor
set_option linter.unusedVariables false
open Go.RowKit

def figC (c : UInt8) : Bool := decide (48 ≤ c.toNat) && decide (c.toNat ≤ 57)
theorem figC_iff {c : UInt8} : figC c = true ↔ 48 ≤ c.toNat ∧ c.toNat ≤ 57 := by simp [figC]
def dval (acc : Nat) (l : List UInt8) : Nat := l.foldl (fun a c => a * 10 + (c.toNat - 48)) acc
theorem dval_snoc (acc : Nat) (l : List UInt8) (c : UInt8) : dval acc (l ++ [c]) = dval acc l * 10 + (c.toNat - 48) := by simp [dval]
theorem dval_cons (acc : Nat) (l : List UInt8) (c : UInt8) : dval acc (c :: l) = dval (acc * 10 + (c.toNat - 48)) l := by unfold dval; rw [List.foldl_cons]
theorem dval_ge (l : List UInt8) : ∀ acc, acc ≤ dval acc l := by
  induction l with
  | nil => intro acc; exact Nat.le_refl _
  | cons c l ih => intro acc; rw [dval_cons]; have := ih (acc * 10 + (c.toNat - 48)); omega
theorem dval_lt (l : List UInt8) : ∀ acc k, (∀ c ∈ l, figC c = true) → acc < 10 ^ k → dval acc l < 10 ^ (k + l.length) := by
  induction l with
  | nil => intro acc k _ h; simpa [dval] using h
  | cons c l ih =>
    intro acc k hf h
    rw [dval_cons]
    have hc := figC_iff.1 (hf c (by simp))
    have := ih (acc * 10 + (c.toNat - 48)) (k + 1) (fun x hx => hf x (by simp [hx])) (by rw [Nat.pow_succ]; omega)
    simp only [List.length_cons]
    rw [show k + (l.length + 1) = k + 1 + l.length by omega]
    exact this
theorem parse_ok (l : List UInt8) : ∀ acc, (∀ c ∈ l, figC c = true) → dval acc l < 18446744073709551616 → Lib.parseUint10 acc l = .ok (dval acc l) := by
  induction l with
  | nil => intro acc _ _; rfl
  | cons c l ih =>
    intro acc hf h
    rw [dval_cons] at h ⊢
    have hc := figC_iff.1 (hf c (by simp))
    have hg := dval_ge l (acc * 10 + (c.toNat - 48))
    rw [Lib.parseUint10, if_pos hc, if_neg (by omega), if_neg (by omega)]
    exact ih _ (fun x hx => hf x (by simp [hx])) h
theorem ofNat_fig {d : Nat} (h : d < 10) : (UInt8.ofNat (48 + d)).toNat = 48 + d := by
  rw [UInt8.toNat_ofNat']; omega
theorem dec_lt {u : Nat} (h : u < 10) : Lib.decDigits u = [UInt8.ofNat (48 + u)] := by rw [Lib.decDigits, dif_pos h]
theorem dec_ge {u : Nat} (h : ¬ u < 10) : Lib.decDigits u = Lib.decDigits (u / 10) ++ [UInt8.ofNat (48 + u % 10)] := by rw [Lib.decDigits, dif_neg h]
theorem dec_fig (u : Nat) : ∀ c ∈ Lib.decDigits u, figC c = true := by
  induction u using Nat.strongRecOn with
  | _ u ih =>
    intro c hc
    by_cases h : u < 10
    · rw [dec_lt h] at hc
      obtain rfl : c = UInt8.ofNat (48 + u) := by simpa using hc
      rw [figC_iff, ofNat_fig h]; omega
    · rw [dec_ge h, List.mem_append] at hc
      rcases hc with hc | hc
      · exact ih (u / 10) (by omega) c hc
      · obtain rfl : c = UInt8.ofNat (48 + u % 10) := by simpa using hc
        rw [figC_iff, ofNat_fig (d := u % 10) (by omega)]; omega
theorem dec_val (u : Nat) : dval 0 (Lib.decDigits u) = u := by
  induction u using Nat.strongRecOn with
  | _ u ih =>
    by_cases h : u < 10
    · rw [dec_lt h]
      show 0 * 10 + ((UInt8.ofNat (48 + u)).toNat - 48) = u
      rw [ofNat_fig h]; omega
    · rw [dec_ge h, dval_snoc, ih (u / 10) (by omega), ofNat_fig (d := u % 10) (by omega)]; omega
theorem dec_pos (u : Nat) : Lib.decDigits u ≠ [] := by
  by_cases h : u < 10
  · rw [dec_lt h]; simp
  · rw [dec_ge h]; simp
theorem dec_head (u : Nat) (hu : 1 ≤ u) : ∃ c l, Lib.decDigits u = c :: l ∧ c.toNat ≠ 48 := by
  induction u using Nat.strongRecOn with
  | _ u ih =>
    by_cases h : u < 10
    · rw [dec_lt h]; exact ⟨_, _, rfl, by rw [ofNat_fig h]; omega⟩
    · obtain ⟨c, l, hl, hc⟩ := ih (u / 10) (by omega) (by omega)
      rw [dec_ge h, hl]; exact ⟨c, l ++ _, rfl, hc⟩
theorem u8_ext {a b : UInt8} (h : a.toNat = b.toNat) : a = b := UInt8.toNat.inj h
/-- A numeral without a 0 before others. -/
def Canon (l : List UInt8) : Prop := l ≠ [] ∧ (∀ c ∈ l, figC c = true) ∧ (l.length = 1 ∨ l.head?.map (·.toNat) ≠ some 48)
theorem canon_dec (u : Nat) : Canon (Lib.decDigits u) := by
  refine ⟨dec_pos u, dec_fig u, ?_⟩
  by_cases h : u < 10
  · rw [dec_lt h]; exact .inl rfl
  · obtain ⟨c, l, hl, hc⟩ := dec_head u (by omega)
    rw [hl]; right; simpa using hc
theorem dval_pos {l : List UInt8} (h : l ≠ []) (hf : ∀ c ∈ l, figC c = true) (h0 : l.head?.map (·.toNat) ≠ some 48) : 1 ≤ dval 0 l := by
  cases l with
  | nil => exact absurd rfl h
  | cons c l =>
    have hc := figC_iff.1 (hf c (by simp))
    simp at h0
    rw [dval_cons]
    have := dval_ge l (0 * 10 + (c.toNat - 48))
    omega
theorem dec_of (n : Nat) : ∀ l : List UInt8, l.length = n → Canon l → Lib.decDigits (dval 0 l) = l := by
  induction n with
  | zero => intro l hl hc; exact absurd (List.length_eq_zero_iff.1 hl) hc.1
  | succ n ih =>
    intro l hl hc
    obtain ⟨h1, h2, h3⟩ := hc
    obtain ⟨t, c, rfl⟩ : ∃ t c, l = t ++ [c] := ⟨l.dropLast, l.getLast h1, (List.dropLast_concat_getLast h1).symm⟩
    have hcf := figC_iff.1 (h2 c (by simp))
    rw [dval_snoc]
    by_cases ht : t = []
    · subst ht
      rw [show dval 0 ([] : List UInt8) = 0 from rfl, dec_lt (by omega), List.nil_append]
      congr 1
      exact u8_ext (by rw [ofNat_fig (by omega)]; omega)
    · have hl1 : ¬ (t ++ [c]).length = 1 := by
        cases t with
        | nil => exact absurd rfl ht
        | cons x t => simp
      have h4 := h3.resolve_left hl1
      have h5 : t.head?.map (·.toNat) ≠ some 48 := by
        cases t with
        | nil => exact absurd rfl ht
        | cons x t => simpa using h4
      have h6 : ∀ x ∈ t, figC x = true := fun x hx => h2 x (by simp [hx])
      have hp := dval_pos ht h6 h5
      rw [dec_ge (by omega)]
      rw [show (dval 0 t * 10 + (c.toNat - 48)) / 10 = dval 0 t by omega, show (dval 0 t * 10 + (c.toNat - 48)) % 10 = c.toNat - 48 by omega]
      rw [ih t (by simpa using hl) ⟨ht, h6, .inr h5⟩]
      congr 2
      exact u8_ext (by rw [ofNat_fig (by omega)]; omega)
theorem mag_ok {l : List UInt8} (h : l ≠ []) (hf : ∀ c ∈ l, figC c = true) (hb : dval 0 l < 18446744073709551616) : Lib.parseMag l = .ok (dval 0 l) := by
  unfold Lib.parseMag
  rw [if_neg h]
  exact parse_ok l 0 hf hb
/-- Atoi of digits. -/
theorem atoi_digits {l : List UInt8} (h : l ≠ []) (hf : ∀ c ∈ l, figC c = true) (hb : dval 0 l < 9223372036854775808) : Lib.atoiAll l = .ok (dval 0 l : Int) := by
  have hm := mag_ok h hf (by omega)
  cases l with
  | nil => exact absurd rfl h
  | cons c l =>
    have hc := figC_iff.1 (hf c (by simp))
    unfold Lib.atoiAll
    have n1 : ¬ (c.toNat = 43 ∨ c.toNat = 45) := by omega
    have n2 : ¬ c.toNat = 45 := by omega
    simp only [if_neg n1, hm]
    rw [if_neg (by omega), if_neg (by omega), if_neg n2]
theorem atoi_itoa (n : Int) (h : okI n) : Lib.atoiAll (Lib.itoa n) = .ok n := by
  obtain ⟨h0, h1⟩ := h
  unfold Lib.itoa
  by_cases hn : n < 0
  · rw [if_pos hn]
    unfold Lib.atoiAll
    have hm := mag_ok (dec_pos n.natAbs) (dec_fig n.natAbs) (by rw [dec_val]; omega)
    rw [dec_val] at hm
    have e45 : (45 : UInt8).toNat = 45 := rfl
    simp only [e45]
    rw [if_pos (.inr trivial), hm]
    simp only
    rw [if_neg (by simp), if_neg (by omega), if_pos trivial]
    congr 1; omega
  · rw [if_neg hn, atoi_digits (dec_pos _) (dec_fig _) (by rw [dec_val]; omega), dec_val]
    congr 1; omega
theorem atoi_bd {l : List UInt8} {n : Int} (h : Lib.atoiAll l = .ok n) : okI n := by
  unfold Lib.atoiAll at h
  split at h
  · cases h
  · simp only at h
    split at h
    · cases h
    · cases h
    · rename_i u hu
      have hb := Lib.parseMag_lt hu
      split at h
      · cases h
      · split at h
        · cases h
        · injection h with h
          subst h
          unfold okI
          split <;> constructor <;> omega
theorem itoa_len (n : Int) : 1 ≤ (Lib.itoa n).length := by
  unfold Lib.itoa
  split
  · simp
  · have := dec_pos n.toNat
    cases h : Lib.decDigits n.toNat with
    | nil => exact absurd h this
    | cons x l => simp
theorem itoa_inj {a b : Int} (ha : okI a) (hb : okI b) (h : Lib.itoa a = Lib.itoa b) : a = b := by
  have h1 := atoi_itoa a ha
  rw [h, atoi_itoa b hb] at h1
  injection h1 with h1
  exact h1.symm
theorem itoa_nat (u : Nat) : Lib.itoa (u : Int) = Lib.decDigits u := by unfold Lib.itoa; rw [if_neg (by omega)]; simp

/-- A text that is a numeral of at most so many digits. -/
def decB (s : ByteArray) (most : Int) : Bool :=
  decide (1 ≤ s.size) && decide ((s.size : Int) ≤ most) && (decide (s.size = 1) || decide (s.data.toList.head?.map (·.toNat) ≠ some 48)) && allB figC s
def decV (s : ByteArray) : Nat := dval 0 s.data.toList
theorem decB_iff {s : ByteArray} {most : Int} : decB s most = true ↔ Canon s.data.toList ∧ (s.size : Int) ≤ most := by
  have hl : s.data.toList.length = s.size := by simp
  unfold decB Canon allB
  simp only [Bool.and_eq_true, Bool.or_eq_true, decide_eq_true_eq, List.all_eq_true, hl]
  have hn : s.data.toList ≠ [] ↔ 1 ≤ s.size := by
    rw [← hl, ne_eq, ← List.length_eq_zero_iff]; omega
  rw [hn]
  constructor
  · rintro ⟨⟨⟨a, b⟩, c⟩, d⟩; exact ⟨⟨a, d, c⟩, b⟩
  · rintro ⟨⟨a, d, c⟩, b⟩; exact ⟨⟨⟨a, b⟩, c⟩, d⟩
theorem decB_dec {s : ByteArray} {most : Int} (h : decB s most = true) : Lib.decDigits (decV s) = s.data.toList := dec_of _ _ rfl (decB_iff.1 h).1
theorem dec_decB {s : ByteArray} {most : Int} {u : Nat} (h : Lib.decDigits u = s.data.toList) (hm : (s.size : Int) ≤ most) : decB s most = true ∧ decV s = u := by
  refine ⟨decB_iff.2 ⟨by rw [← h]; exact canon_dec u, hm⟩, ?_⟩
  unfold decV; rw [← h]; exact dec_val u
theorem decV_lt {s : ByteArray} {most : Nat} (h : decB s most = true) : decV s < 10 ^ most := by
  obtain ⟨⟨_, hf, _⟩, hm⟩ := decB_iff.1 h
  have := dval_lt s.data.toList 0 0 hf (by simp)
  have hl : s.data.toList.length = s.size := by simp
  rw [hl, Nat.zero_add] at this
  exact Nat.lt_of_lt_of_le this (Nat.pow_le_pow_right (by omega) (by omega))
end Go.Proofs.YtkhegeobdcemkaaGreatDoor

/- The generator's own functions: what each returns lies in its range; only the stream's own block turns. -/
namespace Go.Proofs.YtkhegeobdcemkaaGreatDoor
set_option linter.unusedVariables false
open Go.RowKit

/-- Block sb is a stream that has handed out k numbers. -/
def Str (w : World) (sb : Nat) (k : Int) : Prop :=
  ∃ (A : Option Addr) (c : Nat) (l : List Int), w.heap[sb]? = some (.cells #[.slice A l.length c, .int .i64 k] 25 (0, 0)) ∧ 0 ≤ k ∧ Rs w 0 sb 1 intc A l ∧ l.length ≤ 17592186044416 ∧ ∀ x ∈ l, okI x

/-- A call that takes at most d numbers off the stream: the value has p, only the stream has turned. -/
def Took (sb : Nat) (k d : Int) (p : Value → World → Prop) (w : World) (e : Ending) (w' : World) : Prop :=
  ∃ (v : Value) (k' : Int), e = .returned v ∧ p v w' ∧ k' ≤ k + d ∧ Str w' sb k' ∧ w.grownBy w' (some sb)

theorem tmod_lt (x n : Int) (hn : 1 ≤ n) : -n < x.tmod n ∧ x.tmod n < n := by
  have h1 := Int.tmod_lt_of_pos x (show (0:Int) < n by omega)
  have h2 := Int.tmod_lt_of_pos (-x) (show (0:Int) < n by omega)
  rw [Int.neg_tmod] at h2
  omega

set_option maxHeartbeats 400000 in
theorem below_c (x n : Int) (w : World) (hn : 1 ≤ n) (hn2 : n ≤ 4611686018427387904) :
    Calls Tryz.prog 94 #[.int .i64 x, .int .i64 n] w (RetInt (fun v => 0 ≤ v ∧ v < n) w) := by
  have ht := tmod_lt x n hn
  have hh : (-9223372036854775808 ≤ x.tmod n + n ∧ x.tmod n + n ≤ 9223372036854775807) := by omega
  have hw := IntWalk.wrap64_in _ hh
  have H1 := Lib.hid hw; clear hw hh
  have H2 := Lib.hid ht; clear ht
  go_enter Tryz.func94, Tryz.ntmps94
  go_wp2
  · go_ret
    have h := H2.out
    refine ⟨_, ?_, rfl, rfl⟩
    rw [H1.out]; omega
  · go_ret
    have h := H2.out
    exact ⟨_, by omega, rfl, rfl⟩

theorem str_cells {w : World} {sb : Nat} {cs : Array Value} {t : TypeId} (h : w.heap[sb]? = some (.cells cs t (0, 0))) :
    (∀ i, w.cell? ⟨sb, i, none⟩ = cs[i]?) ∧ (∀ i, w.frozen? ⟨sb, i, none⟩ = false) := by
  refine ⟨fun i => by simp [World.cell?, h], fun i => by simp [World.frozen?, h]⟩

theorem str_set {w : World} {sb : Nat} {v u v' : Value} {t : TypeId} (h : w.heap[sb]? = some (.cells #[v, u] t (0, 0))) :
    (w.setCell ⟨sb, 1, none⟩ v').heap[sb]? = some (.cells #[v, v'] t (0, 0)) := by
  simp [World.setCell, Array.getElem?_modify, h]

theorem heap_lt {w : World} {b : Nat} {o : Obj} (h : w.heap[b]? = some o) : b < w.heap.size := (Array.getElem?_eq_some_iff.1 h).1

theorem grown_set (w : World) (sb i : Nat) (v : Value) : w.grownBy (w.setCell ⟨sb, i, none⟩ v) (some sb) :=
  ⟨rfl, rfl, rfl, by simp [World.setCell], fun k _ hne => Below.heap_setCell w _ v k (fun e => hne (by rw [e]))⟩

theorem grown_drewN {a w : World} {row : Option Nat} (h : a.grownBy w row) (n : Nat) : a.grownBy (w.drewN n) row := ⟨h.os, h.tape, h.output, h.size, h.block⟩

theorem Str.set {w : World} {sb : Nat} {k : Int} (h : Str w sb k) (v : Int) (hv : 0 ≤ v) : Str (w.setCell ⟨sb, 1, none⟩ (.int .i64 v)) sb v := by
  obtain ⟨A, c, l, hb, _, hr, hl, ho⟩ := h
  exact ⟨A, c, l, str_set hb, hv, hr.setCell (.inl (Nat.le_refl _)) _, hl, ho⟩

theorem Str.drewN {w : World} {sb : Nat} {k : Int} (h : Str w sb k) (n : Nat) : Str (w.drewN n) sb k := h

set_option maxHeartbeats 400000 in
theorem next_c (sb : Nat) (k n : Int) (w : World) (hs : Str w sb k) (hk : k ≤ 4611686018427387904) (hn : 1 ≤ n) (hn2 : n ≤ 4611686018427387904) :
    Calls Tryz.prog 37 #[.pointer (some ⟨sb, 0, none⟩), .int .i64 n] w (Took sb k 1 (fun v _ => ∃ x : Int, 0 ≤ x ∧ x < n ∧ v = .int .i64 x) w) := by
  have hS := hs.set (k + 1) (by have := hs.choose_spec.choose_spec.choose_spec.2.1; omega)
  have HS := Lib.hid hS; clear hS
  obtain ⟨A, c, l, hb, hk0, hr, hl, ho⟩ := hs
  have HO := Lib.hid ho; clear ho
  obtain ⟨hc, hf⟩ := str_cells hb
  have c0 := hc 0
  have c1 := hc 1
  have f1 := hf 1
  have HB := Lib.hid hb
  simp at c0 c1
  clear hc hf hb
  have HG := grown_set w sb 1 (.int .i64 (k + 1))
  by_cases h0 : l.length = 0
  · have h0' : (((l.length : Nat) : Int) == 0) = true := by simp [h0]
    have H0 := Lib.hid h0; clear h0
    go_enter Tryz.func37, Tryz.ntmps37
    go_wp2_with fail
    refine (below_c _ _ _ hn hn2).mono ?_
    rintro e w' ⟨v, ⟨hv0, hv1⟩, rfl, rfl⟩
    go_wp2
    go_ret
    exact ⟨_, k + 1, rfl, ⟨v, hv0, hv1, rfl⟩, by omega, HS.out, HG⟩
  · have hlp : 0 < l.length := by omega
    obtain ⟨m, rfl⟩ := Int.eq_ofNat_of_zero_le hk0
    have hm : m % l.length < l.length := Nat.mod_lt _ hlp
    obtain ⟨b, off, rfl, hb0, hb1, hcell⟩ := hr.at1 (enc1 := .int .i64) hm
    have h0' : (((l.length : Nat) : Int) == 0) = false := beq_eq_false_iff_ne.2 (by omega)
    have h0'' : ¬ ((l.length : Nat) : Int) = 0 := by omega
    have hcell' : (w.setCell ⟨sb, 1, none⟩ (.int .i64 (m + 1))).cell? ⟨b, off + m % l.length, none⟩ = some (.int .i64 l[m % l.length]) := by
      rw [World.cell?_setCell_other _ _ _ _ (fun e => by have := congrArg Addr.block e; simp at this; omega)]; exact hcell
    clear hcell h0
    go_enter Tryz.func37, Tryz.ntmps37
    go_wp2
    go_quiet (fail)
    go_wp2
    go_quiet (fail)
    go_wp2_with fail
    refine (below_c _ _ _ (by omega) (by omega)).mono ?_
    rintro e w' ⟨v, ⟨hv0, hv1⟩, rfl, rfl⟩
    go_wp2_with fail
    refine (below_c _ _ _ hn hn2).mono ?_
    rintro e w' ⟨v2, ⟨hv2, hv3⟩, rfl, rfl⟩
    go_wp2
    go_ret
    exact ⟨_, m + 1, rfl, ⟨v2, hv2, hv3, rfl⟩, by omega, HS.out.drewN _, grown_drewN HG _⟩

theorem Took.mono {sb : Nat} {k d d' : Int} {p q : Value → World → Prop} {w : World} {e : Ending} {w' : World} (h : Took sb k d p w e w') (hd : d ≤ d') (hq : ∀ v w', p v w' → q v w') : Took sb k d' q w e w' :=
  let ⟨v, k', he, hp, hk, hs, hg⟩ := h
  ⟨v, k', he, hq _ _ hp, by omega, hs, hg⟩

def isInt (p : Int → Prop) (v : Value) (_ : World) : Prop := ∃ x : Int, p x ∧ v = .int .i64 x
def isBool (v : Value) (_ : World) : Prop := ∃ x : Bool, v = .bool x
def isStr (p : ByteArray → Prop) (v : Value) (_ : World) : Prop := ∃ x : ByteArray, p x ∧ v = .string x

set_option maxHeartbeats 400000 in
theorem range_c (sb : Nat) (k lo hi : Int) (w : World) (hs : Str w sb k) (hk : k ≤ 4611686018427387904) (h : lo ≤ hi) (h1 : -1000000000000 ≤ lo) (h2 : hi ≤ 1000000000000) :
    Calls Tryz.prog 27 #[.pointer (some ⟨sb, 0, none⟩), .int .i64 lo, .int .i64 hi] w (Took sb k 1 (isInt (fun x => lo ≤ x ∧ x ≤ hi)) w) := by
  have HS := Lib.hid hs
  go_enter Tryz.func27, Tryz.ntmps27
  go_wp2_with fail
  refine (next_c sb k _ _ HS.out hk (by omega) (by omega)).mono ?_
  rintro e w' ⟨v, k', rfl, ⟨x, hx0, hx1, rfl⟩, hk', hs', hg⟩
  have HK := Lib.hid hs'; clear hs'
  go_wp2
  go_ret
  exact ⟨_, k', rfl, ⟨_, ⟨by omega, by omega⟩, rfl⟩, hk', HK.out, hg⟩

set_option maxHeartbeats 400000 in
theorem flip_c (sb : Nat) (k n : Int) (w : World) (hs : Str w sb k) (hk : k ≤ 4611686018427387904) (hn : 1 ≤ n) (hn2 : n ≤ 4611686018427387904) :
    Calls Tryz.prog 18 #[.pointer (some ⟨sb, 0, none⟩), .int .i64 n] w (Took sb k 1 isBool w) := by
  have HS := Lib.hid hs
  go_enter Tryz.func18, Tryz.ntmps18
  go_wp2_with fail
  refine (next_c sb k _ _ HS.out hk hn hn2).mono ?_
  rintro e w' ⟨v, k', rfl, ⟨x, hx0, hx1, rfl⟩, hk', hs', hg⟩
  have HK := Lib.hid hs'; clear hs'
  go_wp2
  go_ret
  exact ⟨_, k', rfl, ⟨_, rfl⟩, hk', HK.out, hg⟩

set_option maxHeartbeats 400000 in
theorem pick_c (sb : Nat) (k : Int) (A : Option Addr) (l : List Int) (c lo hi : Nat) (w : World) (hs : Str w sb k) (hk : k ≤ 4611686018427387904) (hl0 : 0 < l.length) (hl : l.length ≤ 140737488355328)
    (hr : Rs w lo hi 1 intc A l) (hlo : sb < lo) (hhi : hi ≤ w.heap.size) :
    Calls Tryz.prog 81 #[.pointer (some ⟨sb, 0, none⟩), .slice A l.length c] w (Took sb k 1 (isInt (· ∈ l)) w) := by
  have HS := Lib.hid hs
  have HR := Lib.hid hr; clear hr
  go_enter Tryz.func81, Tryz.ntmps81
  go_wp2_with fail
  refine (next_c sb k _ _ HS.out hk (by omega) (by omega)).mono ?_
  rintro e w' ⟨v, k', rfl, ⟨x, hx0, hx1, rfl⟩, hk', hs', hg⟩
  have HK := Lib.hid hs'; clear hs'
  obtain ⟨m, rfl⟩ := Int.eq_ofNat_of_zero_le hx0
  have hm : m < l.length := by omega
  obtain ⟨b, off, rfl, hb0, hb1, hcell⟩ := (HR.out.grown hg hhi (.inr hlo)).at1 (enc1 := .int .i64) hm
  go_wp2
  go_ret
  exact ⟨_, k', rfl, ⟨_, List.getElem_mem hm, rfl⟩, hk', HK.out, hg⟩

set_option maxHeartbeats 400000 in
theorem one_c (sb : Nat) (k : Int) (A : Option Addr) (l : List ByteArray) (c lo hi : Nat) (w : World) (hs : Str w sb k) (hk : k ≤ 4611686018427387904) (hl0 : 0 < l.length) (hl : l.length ≤ 140737488355328)
    (hr : Rs w lo hi 1 strc A l) (hlo : sb < lo) (hhi : hi ≤ w.heap.size) :
    Calls Tryz.prog 51 #[.pointer (some ⟨sb, 0, none⟩), .slice A l.length c] w (Took sb k 1 (isStr (· ∈ l)) w) := by
  have HS := Lib.hid hs
  have HR := Lib.hid hr; clear hr
  go_enter Tryz.func51, Tryz.ntmps51
  go_wp2_with fail
  refine (next_c sb k _ _ HS.out hk (by omega) (by omega)).mono ?_
  rintro e w' ⟨v, k', rfl, ⟨x, hx0, hx1, rfl⟩, hk', hs', hg⟩
  have HK := Lib.hid hs'; clear hs'
  obtain ⟨m, rfl⟩ := Int.eq_ofNat_of_zero_le hx0
  have hm : m < l.length := by omega
  obtain ⟨b, off, rfl, hb0, hb1, hcell⟩ := (HR.out.grown hg hhi (.inr hlo)).at1 (enc1 := .string) hm
  go_wp2
  go_ret
  exact ⟨_, k', rfl, ⟨_, List.getElem_mem hm, rfl⟩, hk', HK.out, hg⟩

end Go.Proofs.YtkhegeobdcemkaaGreatDoor

/- Digests and their sixteen figures, in plain words. No program in sight. -/
namespace Go.Proofs.YtkhegeobdcemkaaGreatDoor
set_option linter.unusedVariables false
open Go.RowKit

def hexd (d : Nat) : UInt8 := UInt8.ofNat (if d < 10 then 48 + d else 87 + d)
def hexL (u : Nat) : List UInt8 := if h : u < 16 then [hexd u] else hexL (u / 16) ++ [hexd (u % 16)]
termination_by u
decreasing_by omega
theorem hexL_lt {u : Nat} (h : u < 16) : hexL u = [hexd u] := by rw [hexL, dif_pos h]
theorem hexL_ge {u : Nat} (h : ¬ u < 16) : hexL u = hexL (u / 16) ++ [hexd (u % 16)] := by rw [hexL, dif_neg h]
def padk : Nat → Nat → List UInt8
  | 0, _ => []
  | k + 1, u => padk k (u / 16) ++ [hexd (u % 16)]
theorem padk_len (k : Nat) : ∀ u, (padk k u).length = k := by
  induction k with
  | zero => intro u; rfl
  | succ k ih => intro u; simp [padk, ih]
theorem padk_zero (k : Nat) : padk k 0 = List.replicate k 48 := by
  induction k with
  | zero => rfl
  | succ k ih =>
    show padk k (0 / 16) ++ [hexd (0 % 16)] = _
    rw [show (0 : Nat) / 16 = 0 from rfl, ih, List.replicate_succ', show hexd (0 % 16) = 48 from rfl]
theorem hexL_len (k : Nat) : ∀ u, u < 16 ^ k → 1 ≤ k → (hexL u).length ≤ k := by
  induction k with
  | zero => intro u _ h; omega
  | succ k ih =>
    intro u hu _
    by_cases h : u < 16
    · rw [hexL_lt h]; simp
    · rw [hexL_ge h]
      rw [Nat.pow_succ] at hu
      have hk : 1 ≤ k := by
        rcases Nat.eq_zero_or_pos k with rfl | hk
        · simp at hu; omega
        · exact hk
      have := ih (u / 16) (by omega) hk
      simp; omega
theorem pad_eq (k : Nat) : ∀ u, u < 16 ^ k → 1 ≤ k → List.replicate (k - (hexL u).length) 48 ++ hexL u = padk k u := by
  induction k with
  | zero => intro u _ h; omega
  | succ k ih =>
    intro u hu _
    by_cases h : u < 16
    · rw [hexL_lt h]
      show List.replicate (k + 1 - 1) 48 ++ [hexd u] = padk k (u / 16) ++ [hexd (u % 16)]
      rw [show u / 16 = 0 by omega, show u % 16 = u by omega, padk_zero, Nat.add_sub_cancel]
    · rw [Nat.pow_succ] at hu
      have hk : 1 ≤ k := by
        rcases Nat.eq_zero_or_pos k with rfl | hk
        · simp at hu; omega
        · exact hk
      have hi := ih (u / 16) (by omega) hk
      rw [hexL_ge h]
      show List.replicate (k + 1 - (hexL (u / 16) ++ [hexd (u % 16)]).length) 48 ++ (hexL (u / 16) ++ [hexd (u % 16)]) = padk k (u / 16) ++ [hexd (u % 16)]
      rw [List.length_append, List.length_singleton, Nat.add_sub_add_right, ← List.append_assoc, hi]
/-- Figure number j from behind. -/
theorem padk_at (k : Nat) : ∀ u j, j < k → (padk k u)[k - 1 - j]? = some (hexd (u / 16 ^ j % 16)) := by
  induction k with
  | zero => intro u j h; omega
  | succ k ih =>
    intro u j hj
    show (padk k (u / 16) ++ [hexd (u % 16)])[k + 1 - 1 - j]? = _
    cases j with
    | zero =>
      rw [List.getElem?_append_right (by rw [padk_len]; omega), padk_len]
      simp
    | succ j =>
      rw [List.getElem?_append_left (by rw [padk_len]; omega)]
      have := ih (u / 16) j (by omega)
      rw [show k + 1 - 1 - (j + 1) = k - 1 - j by omega, this, Nat.div_div_eq_div_mul, Nat.pow_succ, Nat.mul_comm]

/-- One round of the digest. -/
def hashStep (h : Nat) (c : UInt8) : Nat := ((h ^^^ c.toNat) * 1099511628211) % 18446744073709551616
def hashN (l : List UInt8) : Nat := l.foldl hashStep 14695981039346656037
theorem hashN_snoc (l : List UInt8) (c : UInt8) : hashN (l ++ [c]) = hashStep (hashN l) c := by unfold hashN; rw [List.foldl_append, List.foldl_cons, List.foldl_nil]
theorem hashStep_lt (h : Nat) (c : UInt8) : hashStep h c < 18446744073709551616 := Nat.mod_lt _ (by decide)
theorem fold_lt (l : List UInt8) : ∀ h, h < 18446744073709551616 → l.foldl hashStep h < 18446744073709551616 := by
  induction l with
  | nil => intro h hh; exact hh
  | cons c l ih => intro h _; rw [List.foldl_cons]; exact ih _ (hashStep_lt _ _)
theorem seed_lt : 14695981039346656037 < 18446744073709551616 := by decide
theorem hashN_lt (l : List UInt8) : hashN l < 18446744073709551616 := by
  unfold hashN
  exact fold_lt l 14695981039346656037 seed_lt
def digestB (s : ByteArray) : ByteArray := ⟨(padk 16 (hashN s.data.toList)).toArray⟩
end Go.Proofs.YtkhegeobdcemkaaGreatDoor

/- Maps with keys of one plain type (strings, ints, bools), as lists of pairs: a look-up, a store, in the walk. No program in sight. -/
namespace Go.Proofs.YtkhegeobdcemkaaGreatDoor
set_option linter.unusedVariables false
open Go.RowKit

/-- What a plain key type asks: keys are told apart by the model's quick look. -/
structure PlainKey (P : Program) (k : TypeId) {κ : Type} [DecidableEq κ] (mk : κ → Value) : Prop where
  desc : ∃ d, P.underlying k = some d ∧ (∀ a b, Instr.sameNow d (mk a) (mk b) = some (decide (a = b))) ∧
    (∀ ms, d ≠ .interface ms) ∧ (∀ n e, d ≠ .array n e) ∧ (∀ fs, d ≠ .struct fs)
  bits : ∀ a, Instr.sameBits 10000 (mk a) (mk a) = true

theorem plainKey_string {P : Program} {k : TypeId} (h : P.underlying k = some .string) : PlainKey P k Value.string :=
  ⟨⟨_, h, fun a b => by simp only [Instr.sameNow, beq_ba], by simp, by simp, by simp⟩, fun a => by simp [Instr.sameBits, beq_ba]⟩
theorem plainKey_int {P : Program} {k : TypeId} {q : IntKind} (h : P.underlying k = some (.int q)) : PlainKey P k (Value.int q) :=
  ⟨⟨_, h, fun a b => by simp only [Instr.sameNow]; congr 1, by simp, by simp, by simp⟩, fun a => by simp [Instr.sameBits]⟩

section
variable {κ : Type} [DecidableEq κ] {mk : κ → Value}

/-- What a map holds, oldest first, as keys and values. -/
def lk : List (κ × Value) → κ → Option Value
  | [], _ => none
  | (k, v) :: m, x => if x = k then some v else lk m x
def ix : List (κ × Value) → κ → Option (Nat × Value)
  | [], _ => none
  | (k, v) :: m, x => if x = k then some (0, v) else (ix m x).map fun p => (p.1 + 1, p.2)
def up : List (κ × Value) → κ → Value → List (κ × Value)
  | [], k, v => [(k, v)]
  | (k', v') :: m, k, v => if k = k' then (k, v) :: m else (k', v') :: up m k v

theorem lk_up (m : List (κ × Value)) (k : κ) (v : Value) (x : κ) : lk (up m k v) x = if x = k then some v else lk m x := by
  induction m with
  | nil => simp [up, lk]
  | cons p m ih =>
    obtain ⟨k', v'⟩ := p
    by_cases hk : k = k'
    · subst hk; by_cases hx : x = k <;> simp [up, lk, hx]
    · by_cases hx : x = k
      · subst hx; simp [up, lk, hk, ih]
      · simp [up, lk, hk, ih, hx]
theorem lk_ix (m : List (κ × Value)) (x : κ) : lk m x = (ix m x).map (·.2) := by
  induction m with
  | nil => rfl
  | cons p m ih =>
    obtain ⟨k', v'⟩ := p
    by_cases hx : x = k' <;> simp [lk, ix, hx, ih, Function.comp_def]

def pairs (mk : κ → Value) (m : List (κ × Value)) : List (Value × Value) := m.map fun p => (mk p.1, p.2)
def epairs (es : List MapEntry) : List (Value × Value) := es.map fun e => (e.key, e.val)

theorem find_ix {d : TypeDesc} (hd : ∀ a b, Instr.sameNow d (mk a) (mk b) = some (decide (a = b))) (x : κ) (m : List (κ × Value)) :
    ∀ (es : List MapEntry) (i : Nat), epairs es = pairs mk m → Instr.findNow d (mk x) es i = some ((ix m x).map fun p => (i + p.1, p.2)) := by
  induction m with
  | nil => intro es i h; simp [epairs, pairs] at h; subst h; rfl
  | cons p m ih =>
    obtain ⟨k', v'⟩ := p
    intro es i h
    obtain _ | ⟨e, es⟩ := es
    · simp [epairs, pairs] at h
    · simp only [epairs, pairs, List.map_cons, List.cons.injEq, Prod.mk.injEq] at h
      obtain ⟨⟨h1, h2⟩, h3⟩ := h
      simp only [Instr.findNow, h1, hd, ix]
      by_cases hx : x = k'
      · simp [hx, h2]
      · simp only [hx, decide_false, if_false]
        rw [ih es (i + 1) h3]
        cases ix m x <;> simp <;> omega

theorem up_none (m : List (κ × Value)) (k : κ) (v : Value) (h : ix m k = none) : up m k v = m ++ [(k, v)] := by
  induction m with
  | nil => rfl
  | cons p m ih =>
    obtain ⟨k', v'⟩ := p
    by_cases hk : k = k'
    · simp [ix, hk] at h
    · simp [ix, hk] at h; simp [up, hk, ih h]

theorem up_some (m : List (κ × Value)) (k : κ) (v : Value) (j : Nat) (u : Value) (h : ix m k = some (j, u)) :
    ∀ es : List MapEntry, epairs es = pairs mk m → (∃ e, es[j]? = some e ∧ e.key = mk k) ∧ epairs (es.modify j fun e => { e with key := mk k, val := v }) = pairs mk (up m k v) := by
  induction m generalizing j with
  | nil => simp [ix] at h
  | cons p m ih =>
    obtain ⟨k', v'⟩ := p
    intro es he
    obtain _ | ⟨e, es⟩ := es
    · simp [epairs, pairs] at he
    · simp only [epairs, pairs, List.map_cons, List.cons.injEq, Prod.mk.injEq] at he
      obtain ⟨⟨h1, h2⟩, h3⟩ := he
      by_cases hk : k = k'
      · subst hk
        simp [ix] at h
        obtain ⟨rfl, rfl⟩ := h
        simp [epairs, pairs, up, h1]
        exact h3
      · simp only [ix, hk, if_false] at h
        cases hx : ix m k with
        | none => rw [hx] at h; simp at h
        | some q =>
          rw [hx] at h
          simp at h
          obtain ⟨rfl, rfl⟩ := h
          obtain ⟨⟨e', g1, g2⟩, g3⟩ := ih _ hx es h3
          refine ⟨⟨e', by simpa using g1, g2⟩, ?_⟩
          simp only [up, hk, if_false]
          simp only [List.modify_succ_cons, epairs, pairs, List.map_cons, h1, h2] at g3 ⊢
          rw [g3]

/-- Block b is a map that holds m. -/
def MapL (w : World) (b : Nat) (mk : κ → Value) (m : List (κ × Value)) : Prop :=
  ∃ es clock, w.heap[b]? = some (.map es clock) ∧ epairs es.toList = pairs mk m

variable {w w' : World} {b B : Nat} {m : List (κ × Value)}
omit [DecidableEq κ] in
theorem MapL.lt (h : MapL w b mk m) : b < w.heap.size := by
  obtain ⟨es, clock, hb, _⟩ := h
  exact (Array.getElem?_eq_some_iff.1 hb).1
omit [DecidableEq κ] in
theorem MapL.keep (h : MapL w b mk m) (hk : w'.heap[b]? = w.heap[b]?) : MapL w' b mk m := by
  obtain ⟨es, clock, hb, h⟩ := h
  exact ⟨es, clock, hk.trans hb, h⟩
omit [DecidableEq κ] in
theorem MapL.below (h : MapL w b mk m) (hb : Below B w w') (hlt : b < B) : MapL w' b mk m := h.keep (hb.block b hlt)
omit [DecidableEq κ] in
theorem MapL.alloc (h : MapL w b mk m) (o : Obj) : MapL (w.alloc o) b mk m := h.keep (Below.heap_alloc w o b h.lt)
omit [DecidableEq κ] in
theorem MapL.setCell (h : MapL w b mk m) {p : Addr} (hne : b ≠ p.block) (u : Value) : MapL (w.setCell p u) b mk m := h.keep (Below.heap_setCell w p u b hne)
omit [DecidableEq κ] in
theorem MapL.drewN (h : MapL w b mk m) (n : Nat) : MapL (w.drewN n) b mk m := h
omit [DecidableEq κ] in
theorem MapL.made (w : World) : MapL (w.alloc (.map #[] 0)) w.heap.size mk ([] : List (κ × Value)) := ⟨#[], 0, heap_alloc_new w _, rfl⟩

theorem checkKey_plain {P : Program} {k : TypeId} (K : PlainKey P k mk) (x : κ) (c : Bool) (w : World) : (Instr.checkKey c 10000 k (mk x)).run P w = .ok () w := by
  obtain ⟨d, hd, _, h1, h2, h3⟩ := K.desc
  unfold Instr.checkKey
  simp only [Sem.run_bind, run_underlying hd, Result.andThen_ok]
  split <;> first | rfl | (exfalso; first | exact h1 _ rfl | exact h2 _ _ rfl | exact h3 _ rfl)

theorem run_lookup_plain {P : Program} {t k e : TypeId} (K : PlainKey P k mk) (ht : P.underlying t = some (.map k e)) {z : Value} (hz : (zeroValue e).run P w = .ok z w) (h : MapL w b mk m) (x : κ) (ok : Bool) :
    (Instr.lookup t (.map (some b)) (mk x) ok).run P w = .ok (if ok then .tuple #[(lk m x).getD z, .bool (lk m x).isSome] else (lk m x).getD z) w := by
  obtain ⟨es, clock, hb, he⟩ := h
  obtain ⟨d, hd, hs, _⟩ := K.desc
  have hck := fun c => checkKey_plain K x c w
  have hf := find_ix hs x m es.toList 0 he
  simp only [Nat.zero_add] at hf
  rw [lk_ix]
  cases hx : ix m x with
  | none =>
    rw [hx] at hf
    simp [Instr.lookup, run_underlying ht, getObj, Sem.run, hb, hck, Instr.findKey, run_underlying hd, hf, hz]
  | some p =>
    rw [hx] at hf
    simp [Instr.lookup, run_underlying ht, getObj, Sem.run, hb, hck, Instr.findKey, run_underlying hd, hf]

theorem run_update_plain {P : Program} {t k e : TypeId} (K : PlainKey P k mk) (ht : P.underlying t = some (.map k e)) (h : MapL w b mk m) (x : κ) (v : Value) :
    ∃ w', (Instr.mapUpdate t (.map (some b)) (mk x) v).run P w = .ok () w' ∧ MapL w' b mk (up m x v) ∧ w.grownBy w' (some b) := by
  obtain ⟨es, clock, hb, he⟩ := h
  obtain ⟨d, hd, hs, _⟩ := K.desc
  have hck := fun c => checkKey_plain K x c w
  have hf := find_ix hs x m es.toList 0 he
  simp only [Nat.zero_add] at hf
  have hgb : ∀ o, w.grownBy { w with heap := w.heap.setIfInBounds b o } (some b) := fun o =>
    ⟨rfl, rfl, rfl, by simp, fun i _ hi => by
      show (w.heap.setIfInBounds b o)[i]? = _
      rw [Array.getElem?_setIfInBounds_ne (fun e => hi (by rw [e]))]⟩
  have hlt : b < w.heap.size := (Array.getElem?_eq_some_iff.1 hb).1
  have hnew : ∀ o, (w.heap.setIfInBounds b o)[b]? = some o := fun o => by rw [Array.getElem?_setIfInBounds]; simp [hlt]
  cases hx : ix m x with
  | none =>
    rw [hx] at hf
    refine ⟨{ w with heap := w.heap.setIfInBounds b (.map (es.push { key := mk x, val := v, born := clock }) (clock + 1)) }, ?_, ⟨_, _, hnew _, ?_⟩, hgb _⟩
    · simp [Instr.mapUpdate, run_underlying ht, getObj, setObj, Sem.run, hb, hck, Instr.findKey, run_underlying hd, hf]
    · rw [up_none m x v hx]; simp [epairs, pairs] at he ⊢; exact he
  | some p =>
    obtain ⟨j, u⟩ := p
    rw [hx] at hf
    obtain ⟨⟨e0, h1, h2⟩, h3⟩ := up_some m x v j u hx es.toList he
    have h1' : es[j]? = some e0 := by simpa using h1
    refine ⟨{ w with heap := w.heap.setIfInBounds b (.map (es.modify j fun e => { e with key := mk x, val := v }) clock) }, ?_, ⟨_, _, hnew _, ?_⟩, hgb _⟩
    · simp [Instr.mapUpdate, run_underlying ht, getObj, setObj, Sem.run, hb, hck, Instr.findKey, run_underlying hd, hf, h1', h2, Instr.keyThatStays, K.bits]
    · rw [Array.toList_modify]; exact h3

/-- 'm[k]' at the operation. -/
theorem wpList_lookup_plain {P : Program} (w : World) {ops : Array Oper} {rest : List Oper} {o : Oper} {a : Act} {Q : Exit → Act → World → Prop}
    (hg : o.guard = none) (mo xo : Operand) (t : TypeId) (ok : Bool) (hop : o.op = Op.lookup t mo xo ok) (k e : TypeId) (K : PlainKey P k mk) (ht : P.underlying t = some (.map k e)) (z : Value) (hz : (zeroValue e).run P w = .ok z w)
    (b : Nat) (m : List (κ × Value)) (hm : a.eval mo = .map (some b)) (h : MapL w b mk m) (x : κ) (hx : a.eval xo = mk x)
    (hK : wpList P ops Q rest (a.put o.dst (if ok then .tuple #[(lk m x).getD z, .bool (lk m x).isSome] else (lk m x).getD z)) w) :
    wpList P ops Q (o :: rest) a w := by
  refine wpList_plain hg fun K' hK' => ?_
  have hrun := run_lookup_plain K ht hz h x ok
  unfold Oper.wp
  simp only [execOp, hop, hm, hx, hrun, Sem.run_bind, Result.andThen]
  exact hK' _ _ hK

/-- 'm[k] = v' at the operation. -/
theorem wpList_update_plain {P : Program} (w : World) {ops : Array Oper} {rest : List Oper} {o : Oper} {a : Act} {Q : Exit → Act → World → Prop}
    (hg : o.guard = none) (mo xo vo : Operand) (t : TypeId) (hop : o.op = Op.mapUpdate t mo xo vo) (k e : TypeId) (K : PlainKey P k mk) (ht : P.underlying t = some (.map k e))
    (b : Nat) (m : List (κ × Value)) (hm : a.eval mo = .map (some b)) (h : MapL w b mk m) (x : κ) (hx : a.eval xo = mk x) (v : Value) (hv : a.eval vo = v)
    (hK : ∀ w', MapL w' b mk (up m x v) → w.grownBy w' (some b) → wpList P ops Q rest (a.put o.dst undef) w') :
    wpList P ops Q (o :: rest) a w := by
  refine wpList_plain hg fun K' hK' => ?_
  obtain ⟨w', hrun, r1, r2⟩ := run_update_plain K ht h x v
  unfold Oper.wp
  simp [execOp, hop, hm, hx, hv, hrun, Result.andThen]
  exact hK' _ _ (hK w' r1 r2)
end
end Go.Proofs.YtkhegeobdcemkaaGreatDoor

/- A look-up behind a guard that holds. No program in sight. -/
namespace Go.Proofs.YtkhegeobdcemkaaGreatDoor
set_option linter.unusedVariables false
open Go.RowKit
theorem wpList_lookup_g {κ : Type} [DecidableEq κ] {mk : κ → Value} {P : Program} (w : World) {ops : Array Oper} {rest : List Oper} {o : Oper} {a : Act} {Q : Exit → Act → World → Prop}
    (hg : Region.wanted o (yielded ops a.tmps) = true) (mo xo : Operand) (t : TypeId) (ok : Bool) (hop : o.op = Op.lookup t mo xo ok) (k e : TypeId) (K : PlainKey P k mk) (ht : P.underlying t = some (.map k e)) (z : Value) (hz : (zeroValue e).run P w = .ok z w)
    (b : Nat) (m : List (κ × Value)) (hm : a.eval mo = .map (some b)) (h : MapL w b mk m) (x : κ) (hx : a.eval xo = mk x)
    (hK : wpList P ops Q rest (a.put o.dst (if ok then .tuple #[(lk m x).getD z, .bool (lk m x).isSome] else (lk m x).getD z)) w) :
    wpList P ops Q (o :: rest) a w := by
  refine wpList_step fun K' hK' => ?_
  rw [if_pos hg]
  have hrun := run_lookup_plain K ht hz h x ok
  unfold Oper.wp
  simp only [execOp, hop, hm, hx, hrun, Sem.run_bind, Result.andThen]
  exact hK' _ _ hK
end Go.Proofs.YtkhegeobdcemkaaGreatDoor

/- A map's store, at the operation itself: for regions that draw their order. No program in sight. -/
namespace Go.Proofs.YtkhegeobdcemkaaGreatDoor
set_option linter.unusedVariables false
open Go.RowKit

theorem oper_update {P : Program} {κ : Type} [DecidableEq κ] {mk : κ → Value} {w : World} {o : Oper} {a : Act} {K' : Act → World → Prop} {Q : Exit → Act → World → Prop}
    (mo xo vo : Operand) (t : TypeId) (hop : o.op = Op.mapUpdate t mo xo vo) (k e : TypeId) (K : PlainKey P k mk) (ht : P.underlying t = some (.map k e))
    (b : Nat) (m : List (κ × Value)) (hm : a.eval mo = .map (some b)) (h : MapL w b mk m) (x : κ) (hx : a.eval xo = mk x) (v : Value) (hv : a.eval vo = v)
    (hK : ∀ w', MapL w' b mk (up m x v) → w.grownBy w' (some b) → K' (a.put o.dst undef) w') :
    Oper.wp P o a w K' Q := by
  obtain ⟨w', hrun, r1, r2⟩ := run_update_plain K ht h x v
  unfold Oper.wp
  simp [execOp, hop, hm, hx, hv, hrun, Result.andThen]
  exact hK w' r1 r2
end Go.Proofs.YtkhegeobdcemkaaGreatDoor

/- A region that draws its order: reads, then one store, then one assignment; the reads may come behind the store, which leaves what they read. No program in sight. -/
namespace Go.Proofs.YtkhegeobdcemkaaGreatDoor
set_option linter.unusedVariables false

section
variable {P : Program} {ops : Array Oper} {md : Region.Mode}

/-- Operations that hand back a value and leave the world. -/
def readOp (o : Oper) : Bool :=
  match o.op with
  | .move _ | .assign _ | .pick _ _ _ | .binOp _ _ _ _ _ | .unOp _ _ _ | .load _ _ | .fieldAddr _ _ _ | .indexAddr _ _ _ | .build _ _ | .extract _ _ | .nilCheck _ => true
  | _ => false
theorem run_v {α : Type} {f : α → Value} {s : Sem α} {w w' : World} {n : Next} (h : (s >>= fun x => pure (Next.value (f x)) : Sem Next).run P w = .ok n w') : ∃ u, n = .value u := by
  rw [Sem.run_bind] at h
  cases hs : s.run P w with
  | ok u w1 =>
    rw [hs] at h
    simp only [Result.andThen, Sem.run_pure] at h
    injection h with h1 h2
    exact ⟨_, h1.symm⟩
  | halt x w1 => rw [hs] at h; simp only [Result.andThen] at h; cases h
theorem run_nilCheck {ρ : Operand → Value} {x : Operand} {o : Oper} {w w' : World} {n : Next} (e : o.op = .nilCheck x) (h : (execOp ρ o).run P w = .ok n w') : ∃ u, n = .value u := by
  unfold execOp at h
  rw [e] at h
  dsimp only at h
  split at h
  · cases h
  · cases h
  · cases h
  · split at h
    · cases h
    · rw [Sem.run_bind] at h
      rename_i t v _ _ _
      cases hp : Sem.run P program w with
      | halt x w1 => rw [hp] at h; simp only [Result.andThen] at h; cases h
      | ok p w1 =>
        rw [hp] at h
        simp only [Result.andThen] at h
        rw [Sem.run_bind] at h
        generalize hs : Sem.run P _ w1 = r at h
        cases r with
        | halt x w2 => simp only [Result.andThen] at h; cases h
        | ok b w2 =>
          simp only [Result.andThen] at h
          split at h
          · rw [Sem.run_bind] at h
            generalize hs2 : Sem.run P _ w2 = r at h
            cases r with
            | halt x w3 => simp only [Result.andThen] at h; cases h
            | ok u w3 =>
              simp only [Result.andThen, Sem.run_pure] at h
              injection h with h1 h2
              exact ⟨_, h1.symm⟩
          · simp only [Sem.run_pure] at h
            injection h with h1 h2
            exact ⟨_, h1.symm⟩
    · rw [Sem.run_pure] at h; injection h with h1 h2; exact ⟨_, h1.symm⟩
  · rw [Sem.run_pure] at h; injection h with h1 h2; exact ⟨_, h1.symm⟩
theorem readOp_value {o : Oper} {ρ : Operand → Value} {w w' : World} {n : Next} (ho : readOp o = true) (h : (execOp ρ o).run P w = .ok n w') : ∃ u, n = .value u := by
  unfold readOp at ho
  split at ho
  all_goals first
    | (rename_i e; exact run_nilCheck e h)
    | (rename_i e; unfold execOp at h; rw [e] at h; dsimp only at h; first | exact run_v h | exact run_v (f := id) h | (rw [Sem.run_pure] at h; injection h with h1 h2; exact ⟨_, h1.symm⟩))
    | cases ho
theorem read_yields {o : Oper} {a : Act} {D : World → Prop} {v : Value} {w : World} (ho : readOp o = true) (h : o.quietAt P a D w v) : (execOp a.eval o).run P w = .ok (.value v) w := by
  unfold Oper.quietAt at h
  cases hr : (execOp a.eval o).run P w with
  | ok n w' =>
    obtain ⟨u, rfl⟩ := readOp_value ho hr
    rw [hr] at h
    obtain ⟨h1, h2⟩ := h
    rw [h1, h2]
  | halt x w' => rw [hr] at h; exact h.elim
def setR : Nat → Nat → Array Bool → Array Bool
  | 0, _, L => L
  | n + 1, k, L => setR n (k + 1) (L.setIfInBounds k true)
def lexR (md : Region.Mode) (ops : Array Oper) : Nat → Nat → Array Bool → Bool
  | 0, _, _ => true
  | n + 1, k, L => (Region.ready md ops L).contains k && Region.free md ops L k && lexR md ops n (k + 1) (L.setIfInBounds k true)
theorem wpAnyH_head {Q : Exit → Act → World → Prop} {D : World → Prop} {w : World} {g : Nat} (hs : Region.noSelect ops = true) (hQ : ∀ c a w d v, Q (.panic c) (Act.put a d v) w → Q (.panic c) a w) (hD : D w) :
    ∀ (l : List Oper) (k : Nat) (listed : Array Bool) (a : Act), (∀ j, j < l.length → l[j]? = ops[k + j]?) → (∀ o ∈ l, readOp o = true) → lexR md ops l.length k listed = true →
      wpQuiet P ops D (fun a' => wpAnyH P md ops Q D g (setR l.length k listed) a' w) l a → wpAnyH P md ops Q D (l.length + g) listed a w
  | [], k, listed, a, _, _, _, h => by rw [List.length_nil, Nat.zero_add]; exact h
  | o :: l, k, listed, a, hl, hr, hB, h => by
    have h0 : ops[k]? = some o := by simpa using (hl 0 (by simp)).symm
    simp only [List.length_cons, lexR, Bool.and_eq_true] at hB
    obtain ⟨⟨hrd, hf⟩, hB'⟩ := hB
    have hst : qOp P ops D k (wpQuiet P ops D (fun a' => wpAnyH P md ops Q D g (setR (l.length + 1) k listed) a' w) l) a := by unfold qOp; simp only [h0]; exact h
    obtain ⟨v, hy, hK⟩ := yieldsIn_of_qOp h0 hst
    have hyi : YieldsIf P ops D o v a := hy.imp (fun ⟨hw, hq⟩ => ⟨hw, fun w hw' => read_yields (hr o (by simp)) (hq w hw')⟩) id
    rw [List.length_cons, show l.length + 1 + g = (l.length + g) + 1 by omega]
    exact wpAnyH_take h0 hs hf hrd (fun c a w h => hQ c a w _ _ h) hyi hD
      (wpAnyH_head hs hQ hD l (k + 1) _ _ (fun j hj => by have := hl (j + 1) (by simp; omega); simpa [Nat.add_assoc, Nat.add_comm 1 j] using this) (fun o ho => hr o (by simp [ho])) hB' hK)
theorem wpQuiet_mono {P : Program} {ops : Array Oper} {C : World → Prop} {K K' : Act → Prop} (hk : ∀ a, K a → K' a) : ∀ {l : List Oper} {a : Act}, wpQuiet P ops C K l a → wpQuiet P ops C K' l a
  | [], _, h => hk _ h
  | o :: l, a, h => by
    unfold wpQuiet at h ⊢
    split
    · rename_i hw; rw [if_pos hw] at h; exact Oper.quiet_mono (fun _ h => wpQuiet_mono hk h) h
    · rename_i hw; rw [if_neg hw] at h; exact wpQuiet_mono hk h
def lexRS (ops : Array Oper) (n : Nat) : Bool :=
  Region.noSelect ops && lexR .any ops n 0 (Array.replicate ops.size false) && decide (Region.ready .any ops (setR n 0 (Array.replicate ops.size false)) = [n]) && decide (Region.ready .any ops ((setR n 0 (Array.replicate ops.size false)).setIfInBounds n true) = [n + 1])
    && decide (Region.ready .any ops (((setR n 0 (Array.replicate ops.size false)).setIfInBounds n true).setIfInBounds (n + 1) true) = [])
/-- Reads in the order of the text, at the class of the worlds ahead of the store and behind it; then the store; then the assignment. -/
theorem wp_region_read_store {id : Nat} {Q : Exit → Act → World → Prop} {a : Act} {w : World} {D : World → Prop} {l : List Oper} {o1 o2 : Oper} {x : Operand} (n : Nat) (hm : P.follows .mixedOrders = true) (hl : l.drop n = [o1, o2]) (ho2 : o2.op = .assign x) (hg1 : o1.guard = none) (hg2 : o2.guard = none)
    (hB : lexRS l.toArray n = true) (hreads : (l.take n).all readOp = true) (hQ : ∀ c a w d v, Q (.panic c) (Act.put a d v) w → Q (.panic c) a w) (hD : D w.drew)
    (h : wpQuiet P l.toArray D (fun a' => o1.wp P a' w.drew (fun a1 w1 => D w1 ∧ Q .normal (a1.put o2.dst (a1.eval x)) w1) Q) (l.take n) a) : (Code.region id l.toArray true).wp P Q a w := by
  simp only [lexRS, Bool.and_eq_true, decide_eq_true_eq] at hB
  obtain ⟨⟨⟨⟨hsel, hlex⟩, hr1⟩, hr2⟩, hr3⟩ := hB
  have hlen : l.length = n + 2 := by
    have := congrArg List.length hl
    simp at this; omega
  have htl : (l.take n).length = n := by simp; omega
  have h1 : l[n]? = some o1 := by have := congrArg (fun q => q[0]?) hl; simpa using this
  have h2 : l[n + 1]? = some o2 := by have := congrArg (fun q => q[1]?) hl; simpa using this
  refine wp_region_held (S := D) hm ?_
  have H := wpAnyH_head (P := P) (Q := Q) (D := D) (md := .any) (ops := l.toArray) (g := 2) (w := w.drew) hsel hQ hD (l.take n) 0 (Array.replicate l.toArray.size false) a (fun j hj => by
    have hj' : j < n := by rw [htl] at hj; exact hj
    rw [List.getElem?_take, if_pos hj']; simp) (fun o ho => List.all_eq_true.1 hreads o ho) (by rw [htl]; exact hlex) ?_
  · rw [htl] at H
    rw [show l.toArray.size = n + 2 by simpa using hlen]
    rw [show l.toArray.size = n + 2 by simpa using hlen] at H
    exact H
  · have key : ∀ a', o1.wp P a' w.drew (fun a1 w1 => D w1 ∧ Q .normal (a1.put o2.dst (a1.eval x)) w1) Q → wpAnyH P .any l.toArray Q D 2 (setR (l.take n).length 0 (Array.replicate l.toArray.size false)) a' w.drew := by
      intro a' ha
      rw [htl]
      refine ⟨(fun h0 => by rw [hr1] at h0; cases h0), fun i hi => ?_⟩
      rw [hr1] at hi
      obtain rfl : i = n := by simpa using hi
      unfold wpOp
      simp only [List.getElem?_toArray, h1]
      have hw1 : Region.wanted o1 (yielded l.toArray a'.tmps) = true := by simp [Region.wanted, hg1]
      rw [if_pos hw1]
      refine .inl (Oper.wp_mono (fun a1 w1 hh => ⟨hh.1, ?_⟩) ha)
      refine ⟨(fun h0 => by rw [hr2] at h0; cases h0), fun j hj => ?_⟩
      rw [hr2] at hj
      obtain rfl : j = i + 1 := by simpa using hj
      unfold wpOp
      simp only [List.getElem?_toArray, h2]
      have hw2 : Region.wanted o2 (yielded l.toArray a1.tmps) = true := by simp [Region.wanted, hg2]
      rw [if_pos hw2]
      refine .inl ?_
      have hrun : (execOp a1.eval o2).run P w1 = .ok (.value (a1.eval x)) w1 := by
        unfold execOp; rw [ho2]; rfl
      unfold Oper.wp
      rw [hrun]
      exact ⟨hh.1, hr3, hh.2⟩
    exact wpQuiet_mono key h
end
end Go.Proofs.YtkhegeobdcemkaaGreatDoor

/- A region that draws its order: reads, and operations that come one at a time once the reads are taken; the last ones may write what has been read. No program in sight. (The first law's proof follows the kit's for regions that are held.) -/
namespace Go.Proofs.YtkhegeobdcemkaaGreatDoor
set_option linter.unusedVariables false

section
variable {P : Program} {ops : Array Oper} {Q : Exit → Act → World → Prop} {md : Region.Mode} {S : World → Prop} {b p : Nat → Bool}

/-- Whatever order is picked from here on, and S holds behind each operation that b names. -/
def wpAnyT (P : Program) (md : Region.Mode) (ops : Array Oper) (Q : Exit → Act → World → Prop) (S : World → Prop) (b p : Nat → Bool) : Nat → Array Bool → Act → World → Prop
  | 0, listed, a, w => Region.ready md ops listed = [] ∧ Q .normal a w
  | fuel + 1, listed, a, w =>
    (Region.ready md ops listed = [] → Q .normal a w) ∧
    ∀ i ∈ Region.ready md ops listed, wpOp P ops Q i (fun a' w' => ((b i = true → S w') ∧ (p i = true → w' = w)) ∧ wpAnyT P md ops Q S b p fuel (listed.setIfInBounds i true) a' w') a w
theorem wpAny_of_T : ∀ (fuel : Nat) (listed : Array Bool) (a : Act) (w : World), wpAnyT P md ops Q S b p fuel listed a w → wpAny P md ops Q fuel listed a w
  | 0, _, _, _, h => h
  | fuel + 1, _, _, _, h => ⟨h.1, fun i hi => wpOp_mono (fun a' w' h' => wpAny_of_T fuel _ a' w' h'.2) (h.2 i hi)⟩
theorem wpAnyT_first {i : Nat} {oi : Oper} {v : Value} (hi : ops[i]? = some oi) (hsel : ∀ (j : Nat) (o : Oper) cs b, ops[j]? = some o → o.op ≠ .select cs b)
    (hQ : ∀ c a w, Q (.panic c) (a.put oi.dst v) w → Q (.panic c) a w) :
    ∀ (fuel : Nat) (listed : Array Bool) (a : Act) (w : World),
      (∀ j oj, ops[j]? = some oj → j ≠ i → listed.getD j true = false → (∀ e ∈ oj.after, Region.binds md e = true → e.on ≠ i) → oi.apart ops oj = true) →
      (∀ j oj, ops[j]? = some oj → j ≠ i → listed.getD j true = false → (b j = true ∨ p j = true) ∨ ∃ e ∈ oj.after, Region.binds md e = true ∧ e.on = i) →
      i ∈ Region.ready md ops listed → YieldsIf P ops S oi v a → S w →
      wpAnyT P md ops Q S b p fuel (listed.setIfInBounds i true) (a.put oi.dst v) w → wpAnyT P md ops Q S b p (fuel + 1) listed a w := by
  intro fuel
  induction fuel with
  | zero =>
    intro listed a w _ _ hr hy hS H
    refine ⟨fun h => (by rw [h] at hr; cases hr), fun j hj => ?_⟩
    by_cases hji : j = i
    · subst hji; exact hy.wpOp hi hS ⟨⟨fun _ => hS, fun _ => rfl⟩, H⟩
    · have := ready_mono hj hji
      rw [H.1] at this
      cases this
  | succ fuel ih =>
    intro listed a w hfree hwt hr hy hS H
    refine ⟨fun h => (by rw [h] at hr; cases hr), fun j hj => ?_⟩
    by_cases hji : j = i
    · subst hji; exact hy.wpOp hi hS ⟨⟨fun _ => hS, fun _ => rfl⟩, H⟩
    · have h1 := H.2 j (ready_mono hj hji)
      obtain ⟨hjun, oj, hoj, hall⟩ := mem_ready.1 hj
      have hnot : ∀ e ∈ oj.after, Region.binds md e = true → e.on ≠ i := fun e he hb heq => by
        have h1 := hall e he hb
        have h0 := (mem_ready.1 hr).1
        rw [heq] at h1
        rcases Nat.lt_or_ge i listed.size with h' | h'
        · simp [h'] at h0 h1; rw [h0] at h1; cases h1
        · simp [Array.getElem?_eq_none h'] at h1
      have hjn : b j = true ∨ p j = true := (hwt j oj hoj hji hjun).resolve_right fun ⟨e, he, hb, hon⟩ => hnot e he hb hon
      have h2 := wpOp_putIf hoj (hfree j oj hoj hji hjun hnot) (fun cs b => hsel i oi cs b hi) (fun cs b => hsel j oj cs b hoj) hQ hy h1
      have hfree' : ∀ k ok, ops[k]? = some ok → k ≠ i → (listed.setIfInBounds j true).getD k true = false →
          (∀ e ∈ ok.after, Region.binds md e = true → e.on ≠ i) → oi.apart ops ok = true := fun k ok hk hki hun hno => by
        refine hfree k ok hk hki ?_ hno
        by_cases hjk : j = k
        · subst hjk; exact hjun
        · rw [getD_set_ne true hjk] at hun; exact hun
      have hwt' : ∀ k ok, ops[k]? = some ok → k ≠ i → (listed.setIfInBounds j true).getD k true = false → (b k = true ∨ p k = true) ∨ ∃ e ∈ ok.after, Region.binds md e = true ∧ e.on = i := fun k ok hk hki hun => by
        refine hwt k ok hk hki ?_
        by_cases hjk : j = k
        · subst hjk; exact hjun
        · rw [getD_set_ne true hjk] at hun; exact hun
      refine wpOp_mono (fun a' w' h3 => ⟨h3.2.1, ih (listed.setIfInBounds j true) a' w' hfree' hwt' (ready_mono hr (Ne.symm hji)) h3.1 (hjn.elim h3.2.1.1 fun h => by rw [h3.2.1.2 h]; exact hS) ?_⟩) h2
      rw [Array.setIfInBounds_comm _ _ hji]
      exact h3.2.2
theorem wpAnyT_firstW {i : Nat} {oi : Oper} {v : Value} (hi : ops[i]? = some oi) (hbi : b i = false) (hsel : ∀ (j : Nat) (o : Oper) cs b, ops[j]? = some o → o.op ≠ .select cs b)
    (hQ : ∀ c a w, Q (.panic c) (a.put oi.dst v) w → Q (.panic c) a w) :
    ∀ (fuel : Nat) (listed : Array Bool) (a : Act) (w : World),
      (∀ j oj, ops[j]? = some oj → j ≠ i → listed.getD j true = false → (∀ e ∈ oj.after, Region.binds md e = true → e.on ≠ i) → oi.apart ops oj = true) →
      i ∈ Region.ready md ops listed → YieldsIf P ops (fun _ => True) oi v a →
      wpAnyT P md ops Q S b p fuel (listed.setIfInBounds i true) (a.put oi.dst v) w → wpAnyT P md ops Q S b p (fuel + 1) listed a w := by
  intro fuel
  induction fuel with
  | zero =>
    intro listed a w _ hr hy H
    refine ⟨fun h => (by rw [h] at hr; cases hr), fun j hj => ?_⟩
    by_cases hji : j = i
    · subst hji; exact hy.wpOp hi trivial ⟨⟨fun h => (by rw [hbi] at h; cases h), fun _ => rfl⟩, H⟩
    · have := ready_mono hj hji
      rw [H.1] at this
      cases this
  | succ fuel ih =>
    intro listed a w hfree hr hy H
    refine ⟨fun h => (by rw [h] at hr; cases hr), fun j hj => ?_⟩
    by_cases hji : j = i
    · subst hji; exact hy.wpOp hi trivial ⟨⟨fun h => (by rw [hbi] at h; cases h), fun _ => rfl⟩, H⟩
    · have h1 := H.2 j (ready_mono hj hji)
      obtain ⟨hjun, oj, hoj, hall⟩ := mem_ready.1 hj
      have hnot : ∀ e ∈ oj.after, Region.binds md e = true → e.on ≠ i := fun e he hb heq => by
        have h1 := hall e he hb
        have h0 := (mem_ready.1 hr).1
        rw [heq] at h1
        rcases Nat.lt_or_ge i listed.size with h' | h'
        · simp [h'] at h0 h1; rw [h0] at h1; cases h1
        · simp [Array.getElem?_eq_none h'] at h1
      have h2 := wpOp_putIf hoj (hfree j oj hoj hji hjun hnot) (fun cs b => hsel i oi cs b hi) (fun cs b => hsel j oj cs b hoj) hQ hy h1
      have hfree' : ∀ k ok, ops[k]? = some ok → k ≠ i → (listed.setIfInBounds j true).getD k true = false →
          (∀ e ∈ ok.after, Region.binds md e = true → e.on ≠ i) → oi.apart ops ok = true := fun k ok hk hki hun hno => by
        refine hfree k ok hk hki ?_ hno
        by_cases hjk : j = k
        · subst hjk; exact hjun
        · rw [getD_set_ne true hjk] at hun; exact hun
      refine wpOp_mono (fun a' w' h3 => ⟨h3.2.1, ih (listed.setIfInBounds j true) a' w' hfree' (ready_mono hr (Ne.symm hji)) h3.1 ?_⟩) h2
      rw [Array.setIfInBounds_comm _ _ hji]
      exact h3.2.2
/-- Each that has not come up is named by b or waits for number r. -/
def restB (md : Region.Mode) (ops : Array Oper) (b p : Nat → Bool) (listed : Array Bool) (r : Nat) : Bool := (List.range ops.size).all fun j => decide (j = r) || listed.getD j true || (b j || p j) || Region.waitsFor md ops j r
theorem restB_spec {listed : Array Bool} {r : Nat} (h : restB md ops b p listed r = true) : ∀ j oj, ops[j]? = some oj → j ≠ r → listed.getD j true = false → (b j = true ∨ p j = true) ∨ ∃ e ∈ oj.after, Region.binds md e = true ∧ e.on = r := by
  intro j oj hj hne hl
  have htl : j < ops.size := (Array.getElem?_eq_some_iff.1 hj).1
  have h1 := List.all_eq_true.1 h j (List.mem_range.2 htl)
  simp only [Bool.or_eq_true, decide_eq_true_eq] at h1
  rcases h1 with ((h1 | h1) | h1) | h1
  · exact absurd h1 hne
  · rw [hl] at h1; cases h1
  · exact .inl h1
  · obtain ⟨o', ho', e, he, hb, hon⟩ := Region.waitsFor_spec h1
    have : o' = oj := Option.some.inj (ho'.symm.trans hj)
    subst this
    exact .inr ⟨e, he, hb, hon⟩

def setL : List Nat → Array Bool → Array Bool
  | [], L => L
  | i :: is, L => setL is (L.setIfInBounds i true)
def takesB (md : Region.Mode) (ops : Array Oper) (b p : Nat → Bool) : List Nat → Array Bool → Bool
  | [], _ => true
  | r :: rs, L => (Region.ready md ops L).contains r && Region.free md ops L r && restB md ops b p L r && takesB md ops b p rs (L.setIfInBounds r true)
def firstsB (md : Region.Mode) (ops : Array Oper) (b : Nat → Bool) : List Nat → Array Bool → Bool
  | [], _ => true
  | r :: rs, L => (Region.ready md ops L).contains r && Region.free md ops L r && !b r && firstsB md ops b rs (L.setIfInBounds r true)
def segsB (md : Region.Mode) (ops : Array Oper) (b p : Nat → Bool) : List (List Nat × List Nat × Nat) → Array Bool → Bool
  | [], L => (Region.ready md ops L).isEmpty
  | (ws, rs, i) :: ss, L => firstsB md ops b ws L && takesB md ops b p rs (setL ws L) && decide (Region.ready md ops (setL rs (setL ws L)) = [i]) && !p i && segsB md ops b p ss ((setL rs (setL ws L)).setIfInBounds i true)
def pick (l : List Oper) : List Nat → List Oper
  | [] => []
  | i :: is => match l[i]? with
    | some o => o :: pick l is
    | none => pick l is
/-- The walk: what yields in whatever world, what yields where S holds, then the one operation that may come up, and so on. -/
def wpSegs (P : Program) (l : List Oper) (Q : Exit → Act → World → Prop) (S : World → Prop) (b : Nat → Bool) : List (List Nat × List Nat × Nat) → Act → World → Prop
  | [], a, w => Q .normal a w
  | (ws, rs, i) :: ss, a, w => wpQuiet P l.toArray (fun _ => True) (wpQuiet P l.toArray S (fun a' => match l[i]? with
    | some o => o.wp P a' w (fun a1 w1 => (b i = true → S w1) ∧ wpSegs P l Q S b ss a1 w1) Q
    | none => False) (pick l rs)) (pick l ws) a
def lenS : List (List Nat × List Nat × Nat) → Nat
  | [] => 0
  | (ws, rs, _) :: ss => ws.length + (rs.length + (lenS ss + 1))
theorem wpT_reads {l : List Oper} {w : World} {g : Nat} (hs : Region.noSelect l.toArray = true) (hQ : ∀ c a w d v, Q (.panic c) (Act.put a d v) w → Q (.panic c) a w) (hS : S w) :
    ∀ (rs : List Nat) (listed : Array Bool) (a : Act), (∀ r ∈ rs, ∃ o, l[r]? = some o ∧ readOp o = true) → takesB md l.toArray b p rs listed = true →
      wpQuiet P l.toArray S (fun a' => wpAnyT P md l.toArray Q S b p g (setL rs listed) a' w) (pick l rs) a → wpAnyT P md l.toArray Q S b p (rs.length + g) listed a w
  | [], listed, a, _, _, h => by rw [List.length_nil, Nat.zero_add]; exact h
  | r :: rs, listed, a, hr, hB, h => by
    obtain ⟨o, ho, hro⟩ := hr r (by simp)
    have h0 : l.toArray[r]? = some o := by simpa using ho
    simp only [takesB, Bool.and_eq_true] at hB
    obtain ⟨⟨⟨hrd, hf⟩, hrn⟩, hB'⟩ := hB
    simp only [pick, ho] at h
    have hst : qOp P l.toArray S r (wpQuiet P l.toArray S (fun a' => wpAnyT P md l.toArray Q S b p g (setL (r :: rs) listed) a' w) (pick l rs)) a := by unfold qOp; simp only [h0]; exact h
    obtain ⟨v, hy, hK⟩ := yieldsIn_of_qOp h0 hst
    have hyi : YieldsIf P l.toArray S o v a := hy.imp (fun ⟨hw, hq⟩ => ⟨hw, fun w hw' => read_yields hro (hq w hw')⟩) id
    rw [List.length_cons, show rs.length + 1 + g = (rs.length + g) + 1 by omega]
    exact wpAnyT_first h0 (Region.noSelect_spec hs) (fun c a w h => hQ c a w _ _ h) _ _ _ _ (Region.free_spec h0 hf) (restB_spec hrn) (by simpa using hrd) hyi hS (wpT_reads hs hQ hS rs _ _ (fun q hq => hr q (by simp [hq])) hB' hK)
theorem wpT_firsts {l : List Oper} {w : World} {g : Nat} (hs : Region.noSelect l.toArray = true) (hQ : ∀ c a w d v, Q (.panic c) (Act.put a d v) w → Q (.panic c) a w) :
    ∀ (rs : List Nat) (listed : Array Bool) (a : Act), (∀ r ∈ rs, ∃ o, l[r]? = some o ∧ readOp o = true) → firstsB md l.toArray b rs listed = true →
      wpQuiet P l.toArray (fun _ => True) (fun a' => wpAnyT P md l.toArray Q S b p g (setL rs listed) a' w) (pick l rs) a → wpAnyT P md l.toArray Q S b p (rs.length + g) listed a w
  | [], listed, a, _, _, h => by rw [List.length_nil, Nat.zero_add]; exact h
  | r :: rs, listed, a, hr, hB, h => by
    obtain ⟨o, ho, hro⟩ := hr r (by simp)
    have h0 : l.toArray[r]? = some o := by simpa using ho
    simp only [firstsB, Bool.and_eq_true, Bool.not_eq_true'] at hB
    obtain ⟨⟨⟨hrd, hf⟩, hrn⟩, hB'⟩ := hB
    simp only [pick, ho] at h
    have hst : qOp P l.toArray (fun _ => True) r (wpQuiet P l.toArray (fun _ => True) (fun a' => wpAnyT P md l.toArray Q S b p g (setL (r :: rs) listed) a' w) (pick l rs)) a := by unfold qOp; simp only [h0]; exact h
    obtain ⟨v, hy, hK⟩ := yieldsIn_of_qOp h0 hst
    have hyi : YieldsIf P l.toArray (fun _ => True) o v a := hy.imp (fun ⟨hw, hq⟩ => ⟨hw, fun w hw' => read_yields hro (hq w hw')⟩) id
    rw [List.length_cons, show rs.length + 1 + g = (rs.length + g) + 1 by omega]
    exact wpAnyT_firstW h0 hrn (Region.noSelect_spec hs) (fun c a w h => hQ c a w _ _ h) _ _ _ _ (Region.free_spec h0 hf) (by simpa using hrd) hyi (wpT_firsts hs hQ rs _ _ (fun q hq => hr q (by simp [hq])) hB' hK)
theorem wpT_segs {l : List Oper} (hs : Region.noSelect l.toArray = true) (hQ : ∀ c a w d v, Q (.panic c) (Act.put a d v) w → Q (.panic c) a w) :
    ∀ (ss : List (List Nat × List Nat × Nat)) (listed : Array Bool) (a : Act) (w : World), (∀ s ∈ ss, (∀ r ∈ s.1, ∃ o, l[r]? = some o ∧ readOp o = true) ∧ (∀ r ∈ s.2.1, ∃ o, l[r]? = some o ∧ readOp o = true) ∧ ∀ o, l[s.2.2]? = some o → o.guard = none) → segsB md l.toArray b p ss listed = true →
      (S w ∨ ∀ s ∈ ss, s.2.1 = []) → (∀ (k : Nat) s, ss[k]? = some s → b s.2.2 = false → ∀ s' ∈ ss.drop (k + 1), s'.2.1 = []) → wpSegs P l Q S b ss a w → wpAnyT P md l.toArray Q S b p (lenS ss) listed a w
  | [], listed, a, w, _, hB, _, _, h => ⟨by simpa [segsB] using hB, h⟩
  | (ws, rs, i) :: ss, listed, a, w, hg, hB, hSw, ho, h => by
    simp only [segsB, Bool.and_eq_true, decide_eq_true_eq, Bool.not_eq_true'] at hB
    obtain ⟨⟨⟨⟨hB0, hB1⟩, hB2⟩, hpi⟩, hB3⟩ := hB
    have key : ∀ a', (match l[i]? with
        | some o => o.wp P a' w (fun a1 w1 => (b i = true → S w1) ∧ wpSegs P l Q S b ss a1 w1) Q
        | none => False) → wpAnyT P md l.toArray Q S b p (lenS ss + 1) (setL rs (setL ws listed)) a' w := by
      intro a' ha
      refine ⟨fun h0 => (by rw [hB2] at h0; cases h0), fun j hj => ?_⟩
      rw [hB2] at hj
      obtain rfl : j = i := by simpa using hj
      cases hl : l[j]? with
      | none => rw [hl] at ha; exact ha.elim
      | some o =>
        rw [hl] at ha
        have h0 : l.toArray[j]? = some o := by simpa using hl
        have hgn := (hg (ws, rs, j) (by simp)).2.2 o hl
        unfold wpOp
        simp only [h0]
        have hw1 : Region.wanted o (yielded l.toArray a'.tmps) = true := by simp [Region.wanted, hgn]
        rw [if_pos hw1]
        refine .inl (Oper.wp_mono (fun a1 w1 hh => ⟨⟨hh.1, fun h => by rw [hpi] at h; cases h⟩, ?_⟩) ha)
        refine wpT_segs hs hQ ss _ a1 w1 (fun s hs => hg s (by simp [hs])) hB3 ?_ (fun k s hk hn s' hs' => ho (k + 1) s (by simpa using hk) hn s' (by simpa using hs')) hh.2
        cases hbj : b j with
        | true => exact .inl (hh.1 hbj)
        | false => exact .inr fun s hs => ho 0 (ws, rs, j) (by simp) hbj s (by simpa using hs)
    rw [lenS]
    refine wpT_firsts hs hQ ws listed a (hg (ws, rs, i) (by simp)).1 hB0 (wpQuiet_mono (fun a0 h0 => ?_) h)
    rcases hSw with hSw | hSw
    · exact wpT_reads hs hQ hSw rs _ a0 (hg (ws, rs, i) (by simp)).2.1 hB1 (wpQuiet_mono key h0)
    · have hrs : rs = [] := hSw (ws, rs, i) (by simp)
      subst hrs
      have h2 := key a0 h0
      rw [List.length_nil, Nat.zero_add]
      exact h2
/-- One segment at a time, what follows behind a variable. -/
theorem wpSegs_step {l : List Oper} {ws rs : List Nat} {i : Nat} {ss : List (List Nat × List Nat × Nat)} {a : Act} {w : World} {o : Oper} {wl rl : List Oper} (hw : pick l ws = wl) (hp : pick l rs = rl) (ho : l[i]? = some o)
    (h : ∀ K : Act → World → Prop, (∀ a1 w1, wpSegs P l Q S b ss a1 w1 → K a1 w1) → ∀ K2 : Act → Prop, (∀ a0, wpQuiet P l.toArray S (fun a' => o.wp P a' w (fun a1 w1 => (b i = true → S w1) ∧ K a1 w1) Q) rl a0 → K2 a0) → wpQuiet P l.toArray (fun _ => True) K2 wl a) : wpSegs P l Q S b ((ws, rs, i) :: ss) a w := by
  subst hp; subst hw
  simp only [wpSegs, ho]
  exact h (fun a1 w1 => wpSegs P l Q S b ss a1 w1) (fun _ _ h => h) _ (fun _ h => h)
theorem wpSegs_end {l : List Oper} {a : Act} {w : World} (h : Q .normal a w) : wpSegs P l Q S b [] a w := h
/-- The pure reads of a region. -/
def pureB (l : List Oper) (i : Nat) : Bool := match l[i]? with | some o => readOp o | none => false
/-- What the kernel looks at: bs are the operations behind which S is to be shown. -/
def segsOk (l : List Oper) (bs : List Nat) (ss : List (List Nat × List Nat × Nat)) : Bool :=
  Region.noSelect l.toArray && segsB .any l.toArray bs.contains (pureB l) ss (Array.replicate l.toArray.size false) && decide (lenS ss = l.toArray.size)
    && (ss.all fun s => s.1.all (pureB l) && s.2.1.all (pureB l) && (match l[s.2.2]? with | some o => o.guard.isNone | none => true))
    && ((List.range ss.length).all fun k => match ss[k]? with | some s => bs.contains s.2.2 || (ss.drop (k + 1)).all fun s' => s'.2.1.isEmpty | none => true)
theorem reads_of {l : List Oper} {rs : List Nat} (h : rs.all (pureB l) = true) : ∀ r ∈ rs, ∃ o, l[r]? = some o ∧ readOp o = true := fun r hr => by
  have h7 := List.all_eq_true.1 h r hr
  unfold pureB at h7
  cases hl : l[r]? with
  | none => rw [hl] at h7; cases h7
  | some o => rw [hl] at h7; exact ⟨o, rfl, h7⟩
theorem wp_region_segs {id : Nat} {a : Act} {w : World} {l : List Oper} (bs : List Nat) (ss : List (List Nat × List Nat × Nat)) (hm : P.follows .mixedOrders = true) (hB : segsOk l bs ss = true) (hQ : ∀ c a w d v, Q (.panic c) (Act.put a d v) w → Q (.panic c) a w) (S : World → Prop) (hS : S w.drew)
    (h : wpSegs P l Q S bs.contains ss a w.drew) : (Code.region id l.toArray true).wp P Q a w := by
  simp only [segsOk, Bool.and_eq_true, decide_eq_true_eq] at hB
  obtain ⟨⟨⟨⟨h1, h3⟩, h4⟩, h6⟩, h7⟩ := hB
  refine wp_region_any hm (wpAny_of_T (S := S) (b := bs.contains) (p := pureB l) _ _ _ _ ?_)
  refine Eq.mp (congrArg (fun k => wpAnyT P .any l.toArray Q S bs.contains (pureB l) k (Array.replicate l.toArray.size false) a w.drew) h4) ?_
  refine wpT_segs h1 hQ ss _ a w.drew (fun s hs => ?_) h3 (.inl hS) (fun k s hk hn s' hs' => ?_) h
  · have := List.all_eq_true.1 h6 s hs
    simp only [Bool.and_eq_true] at this
    refine ⟨reads_of this.1.1, reads_of this.1.2, fun o ho => ?_⟩
    have h8 := this.2
    rw [ho] at h8
    simpa using h8
  · have hkl : k < ss.length := (List.getElem?_eq_some_iff.1 hk).1
    have h8 := List.all_eq_true.1 h7 k (List.mem_range.2 hkl)
    rw [hk] at h8
    simp only [Bool.or_eq_true] at h8
    rcases h8 with h8 | h8
    · rw [hn] at h8; cases h8
    · have := List.all_eq_true.1 h8 s' hs'
      simpa using this
/-- A condition on worlds as a family of worlds: the form that the quiet walk reads. -/
theorem family (f : World → Prop) (W0 : World) (h0 : f W0) : ∃ (ι : Type) (ff : ι → World), Nonempty ι ∧ (∀ p, f (ff p)) ∧ ∀ W, f W → ∃ p, W = ff p := ⟨{W // f W}, Subtype.val, ⟨⟨W0, h0⟩⟩, fun p => p.2, fun W h => ⟨⟨W, h⟩, rfl⟩⟩
end
end Go.Proofs.YtkhegeobdcemkaaGreatDoor

/- A region that draws its order, its reads taken first: what is known of memory may grow behind each operation that comes up; reads may end it. No program in sight. -/
namespace Go.Proofs.YtkhegeobdcemkaaGreatDoor
set_option linter.unusedVariables false
open Go.RowKit

section
variable {P : Program} {ops : Array Oper} {Q : Exit → Act → World → Prop} {md : Region.Mode} {S S' : World → Prop} {b p : Nat → Bool}

theorem wpAnyT_monoS (hSS : ∀ W, S' W → S W) : ∀ (fuel : Nat) (listed : Array Bool) (a : Act) (w : World), wpAnyT P md ops Q S' b p fuel listed a w → wpAnyT P md ops Q S b p fuel listed a w
  | 0, _, _, _, h => h
  | fuel + 1, _, _, _, h => ⟨h.1, fun i hi => wpOp_mono (fun a' w' h' => ⟨⟨fun hb => hSS _ (h'.1.1 hb), h'.1.2⟩, wpAnyT_monoS hSS fuel _ a' w' h'.2⟩) (h.2 i hi)⟩
def segsB2 (md : Region.Mode) (ops : Array Oper) (b p : Nat → Bool) (fw fr : List Nat) : List (List Nat × List Nat × Nat) → Array Bool → Bool
  | [], L => firstsB md ops b fw L && takesB md ops b p fr (setL fw L) && (Region.ready md ops (setL fr (setL fw L))).isEmpty
  | (ws, rs, i) :: ss, L => firstsB md ops b ws L && takesB md ops b p rs (setL ws L) && decide (Region.ready md ops (setL rs (setL ws L)) = [i]) && !p i && segsB2 md ops b p fw fr ss ((setL rs (setL ws L)).setIfInBounds i true)
/-- As wpSegs; behind each operation that comes up a stronger fact may be taken. -/
def wpSegs2 (P : Program) (l : List Oper) (Q : Exit → Act → World → Prop) (b : Nat → Bool) (fw fr : List Nat) : List (List Nat × List Nat × Nat) → (World → Prop) → Act → World → Prop
  | [], S, a, w => wpQuiet P l.toArray (fun _ => True) (wpQuiet P l.toArray S (fun a' => Q .normal a' w) (pick l fr)) (pick l fw) a
  | (ws, rs, i) :: ss, S, a, w => wpQuiet P l.toArray (fun _ => True) (wpQuiet P l.toArray S (fun a' => match l[i]? with
    | some o => o.wp P a' w (fun a1 w1 => ∃ S' : World → Prop, (∀ W, S' W → S W) ∧ (b i = true → S' w1) ∧ wpSegs2 P l Q b fw fr ss S' a1 w1) Q
    | none => False) (pick l rs)) (pick l ws) a
def lenS2 (fw fr : List Nat) : List (List Nat × List Nat × Nat) → Nat
  | [] => fw.length + (fr.length + 0)
  | (ws, rs, _) :: ss => ws.length + (rs.length + (lenS2 fw fr ss + 1))
theorem wpT_segs2 {l : List Oper} {fw fr : List Nat} (hs : Region.noSelect l.toArray = true) (hQ : ∀ c a w d v, Q (.panic c) (Act.put a d v) w → Q (.panic c) a w)
    (hfw : ∀ r ∈ fw, ∃ o, l[r]? = some o ∧ readOp o = true) (hfr : ∀ r ∈ fr, ∃ o, l[r]? = some o ∧ readOp o = true) :
    ∀ (ss : List (List Nat × List Nat × Nat)) (S : World → Prop) (listed : Array Bool) (a : Act) (w : World), (∀ s ∈ ss, (∀ r ∈ s.1, ∃ o, l[r]? = some o ∧ readOp o = true) ∧ (∀ r ∈ s.2.1, ∃ o, l[r]? = some o ∧ readOp o = true) ∧ ∀ o, l[s.2.2]? = some o → o.guard = none) → segsB2 md l.toArray b p fw fr ss listed = true →
      (S w ∨ (fr = [] ∧ ∀ s ∈ ss, s.2.1 = [])) → (∀ (k : Nat) s, ss[k]? = some s → b s.2.2 = false → fr = [] ∧ ∀ s' ∈ ss.drop (k + 1), s'.2.1 = []) → wpSegs2 P l Q b fw fr ss S a w → wpAnyT P md l.toArray Q S b p (lenS2 fw fr ss) listed a w
  | [], S, listed, a, w, _, hB, hSw, _, h => by
    simp only [segsB2, Bool.and_eq_true] at hB
    obtain ⟨⟨hB0, hB1⟩, hB2⟩ := hB
    rw [lenS2]
    refine wpT_firsts hs hQ fw listed a hfw hB0 (wpQuiet_mono (fun a0 h0 => ?_) h)
    have key : ∀ a', Q .normal a' w → wpAnyT P md l.toArray Q S b p 0 (setL fr (setL fw listed)) a' w := fun a' ha => ⟨by simpa using hB2, ha⟩
    rcases hSw with hSw | ⟨hSw, _⟩
    · exact wpT_reads hs hQ hSw fr _ a0 hfr hB1 (wpQuiet_mono key h0)
    · subst hSw
      exact key a0 h0
  | (ws, rs, i) :: ss, S, listed, a, w, hg, hB, hSw, ho, h => by
    simp only [segsB2, Bool.and_eq_true, decide_eq_true_eq, Bool.not_eq_true'] at hB
    obtain ⟨⟨⟨⟨hB0, hB1⟩, hB2⟩, hpi⟩, hB3⟩ := hB
    have key : ∀ a', (match l[i]? with
        | some o => o.wp P a' w (fun a1 w1 => ∃ S' : World → Prop, (∀ W, S' W → S W) ∧ (b i = true → S' w1) ∧ wpSegs2 P l Q b fw fr ss S' a1 w1) Q
        | none => False) → wpAnyT P md l.toArray Q S b p (lenS2 fw fr ss + 1) (setL rs (setL ws listed)) a' w := by
      intro a' ha
      refine ⟨fun h0 => (by rw [hB2] at h0; cases h0), fun j hj => ?_⟩
      rw [hB2] at hj
      obtain rfl : j = i := by simpa using hj
      cases hl : l[j]? with
      | none => rw [hl] at ha; exact ha.elim
      | some o =>
        rw [hl] at ha
        have h0 : l.toArray[j]? = some o := by simpa using hl
        have hgn := (hg (ws, rs, j) (by simp)).2.2 o hl
        unfold wpOp
        simp only [h0]
        have hw1 : Region.wanted o (yielded l.toArray a'.tmps) = true := by simp [Region.wanted, hgn]
        rw [if_pos hw1]
        refine .inl (Oper.wp_mono (fun a1 w1 hh => ?_) ha)
        obtain ⟨S', hSS, hS1, hh⟩ := hh
        refine ⟨⟨fun hb => hSS _ (hS1 hb), fun h => by rw [hpi] at h; cases h⟩, wpAnyT_monoS hSS _ _ _ _ ?_⟩
        refine wpT_segs2 hs hQ hfw hfr ss S' _ a1 w1 (fun s hs => hg s (by simp [hs])) hB3 ?_ (fun k s hk hn => ho (k + 1) s (by simpa using hk) hn) hh
        cases hbj : b j with
        | true => exact .inl (hS1 hbj)
        | false => exact .inr ⟨(ho 0 (ws, rs, j) (by simp) hbj).1, fun s hs => (ho 0 (ws, rs, j) (by simp) hbj).2 s (by simpa using hs)⟩
    rw [lenS2]
    refine wpT_firsts hs hQ ws listed a (hg (ws, rs, i) (by simp)).1 hB0 (wpQuiet_mono (fun a0 h0 => ?_) h)
    rcases hSw with hSw | hSw
    · exact wpT_reads hs hQ hSw rs _ a0 (hg (ws, rs, i) (by simp)).2.1 hB1 (wpQuiet_mono key h0)
    · have hrs : rs = [] := hSw.2 (ws, rs, i) (by simp)
      subst hrs
      have h2 := key a0 h0
      rw [List.length_nil, Nat.zero_add]
      exact h2
/-- One segment at a time, what follows behind a variable. -/
theorem wpSegs2_step {l : List Oper} {fw fr ws rs : List Nat} {i : Nat} {ss : List (List Nat × List Nat × Nat)} {a : Act} {w : World} {o : Oper} {wl rl : List Oper} (hw : pick l ws = wl) (hp : pick l rs = rl) (ho : l[i]? = some o)
    (h : ∀ K : Act → World → Prop, (∀ (S' : World → Prop) a1 w1, (∀ W, S' W → S W) → S' w1 → wpSegs2 P l Q b fw fr ss S' a1 w1 → K a1 w1) → ∀ K2 : Act → Prop, (∀ a0, wpQuiet P l.toArray S (fun a' => o.wp P a' w (fun a1 w1 => K a1 w1) Q) rl a0 → K2 a0) → wpQuiet P l.toArray (fun _ => True) K2 wl a) : wpSegs2 P l Q b fw fr ((ws, rs, i) :: ss) S a w := by
  subst hp; subst hw
  simp only [wpSegs2, ho]
  exact h (fun a1 w1 => ∃ S' : World → Prop, (∀ W, S' W → S W) ∧ (b i = true → S' w1) ∧ wpSegs2 P l Q b fw fr ss S' a1 w1) (fun S' _ _ h1 h2 h3 => ⟨S', h1, fun _ => h2, h3⟩) _ (fun _ h => h)
/-- The last operation that comes up: what holds of memory is not asked. -/
theorem wpSegs2_last {l : List Oper} {fw fr ws rs : List Nat} {i : Nat} {ss : List (List Nat × List Nat × Nat)} {a : Act} {w : World} {o : Oper} {wl rl : List Oper} (hw : pick l ws = wl) (hp : pick l rs = rl) (ho : l[i]? = some o) (hb : b i = false)
    (h : ∀ K : Act → World → Prop, (∀ a1 w1, wpSegs2 P l Q b fw fr ss S a1 w1 → K a1 w1) → ∀ K2 : Act → Prop, (∀ a0, wpQuiet P l.toArray S (fun a' => o.wp P a' w (fun a1 w1 => K a1 w1) Q) rl a0 → K2 a0) → wpQuiet P l.toArray (fun _ => True) K2 wl a) : wpSegs2 P l Q b fw fr ((ws, rs, i) :: ss) S a w := by
  subst hp; subst hw
  simp only [wpSegs2, ho]
  exact h (fun a1 w1 => ∃ S' : World → Prop, (∀ W, S' W → S W) ∧ (b i = true → S' w1) ∧ wpSegs2 P l Q b fw fr ss S' a1 w1) (fun _ _ h3 => ⟨S, fun _ h => h, fun h => (by rw [hb] at h; cases h), h3⟩) _ (fun _ h => h)
/-- The reads that end the region. -/
theorem wpSegs2_fin {l : List Oper} {fw fr : List Nat} {a : Act} {w : World} {wl rl : List Oper} (hw : pick l fw = wl) (hp : pick l fr = rl)
    (h : ∀ K2 : Act → Prop, (∀ a0, wpQuiet P l.toArray S (fun a' => Q .normal a' w) rl a0 → K2 a0) → wpQuiet P l.toArray (fun _ => True) K2 wl a) : wpSegs2 P l Q b fw fr [] S a w := by
  subst hp; subst hw
  exact h _ (fun _ h => h)
theorem wpSegs2_end {l : List Oper} {a : Act} {w : World} (h : Q .normal a w) : wpSegs2 P l Q b [] [] [] S a w := h
/-- What the kernel looks at. -/
def segsOk2 (l : List Oper) (bs fw fr : List Nat) (ss : List (List Nat × List Nat × Nat)) : Bool :=
  Region.noSelect l.toArray && segsB2 .any l.toArray bs.contains (pureB l) fw fr ss (Array.replicate l.toArray.size false) && decide (lenS2 fw fr ss = l.toArray.size)
    && (ss.all fun s => s.1.all (pureB l) && s.2.1.all (pureB l) && (match l[s.2.2]? with | some o => o.guard.isNone | none => true))
    && ((List.range ss.length).all fun k => match ss[k]? with | some s => bs.contains s.2.2 || (fr.isEmpty && (ss.drop (k + 1)).all fun s' => s'.2.1.isEmpty) | none => true)
    && fw.all (pureB l) && fr.all (pureB l)
theorem wp_region_segs2 {id : Nat} {a : Act} {w : World} {l : List Oper} (bs fw fr : List Nat) (ss : List (List Nat × List Nat × Nat)) (hm : P.follows .mixedOrders = true) (hB : segsOk2 l bs fw fr ss = true) (hQ : ∀ c a w d v, Q (.panic c) (Act.put a d v) w → Q (.panic c) a w) (S : World → Prop) (hS : S w.drew)
    (h : wpSegs2 P l Q bs.contains fw fr ss S a w.drew) : (Code.region id l.toArray true).wp P Q a w := by
  simp only [segsOk2, Bool.and_eq_true, decide_eq_true_eq] at hB
  obtain ⟨⟨⟨⟨⟨⟨h1, h3⟩, h4⟩, h6⟩, h7⟩, h8⟩, h9⟩ := hB
  refine wp_region_any hm (wpAny_of_T (S := S) (b := bs.contains) (p := pureB l) _ _ _ _ ?_)
  refine Eq.mp (congrArg (fun k => wpAnyT P .any l.toArray Q S bs.contains (pureB l) k (Array.replicate l.toArray.size false) a w.drew) h4) ?_
  refine wpT_segs2 h1 hQ (reads_of h8) (reads_of h9) ss S _ a w.drew (fun s hs => ?_) h3 (.inl hS) (fun k s hk hn => ?_) h
  · have := List.all_eq_true.1 h6 s hs
    simp only [Bool.and_eq_true] at this
    refine ⟨reads_of this.1.1, reads_of this.1.2, fun o ho => ?_⟩
    have h8 := this.2
    rw [ho] at h8
    simpa using h8
  · have hkl : k < ss.length := (List.getElem?_eq_some_iff.1 hk).1
    have h8 := List.all_eq_true.1 h7 k (List.mem_range.2 hkl)
    rw [hk] at h8
    simp only [Bool.or_eq_true, Bool.and_eq_true] at h8
    rcases h8 with h8 | ⟨h8, h9⟩
    · rw [hn] at h8; cases h8
    · refine ⟨by simpa using h8, fun s' hs' => ?_⟩
      have := List.all_eq_true.1 h9 s' hs'
      simpa using this
/-- The worlds that have grown from one on, as a family: the form that the quiet walk reads. -/
theorem growFam (w : World) : ∃ (ι : Type) (ff : ι → World), Nonempty ι ∧ (∃ p, w = ff p) ∧ (∀ p, Below w.heap.size w (ff p)) ∧ ∀ W, Below w.heap.size w W → ∃ p, W = ff p :=
  ⟨{W // Below w.heap.size w W}, Subtype.val, ⟨⟨w, Below.refl _ w⟩⟩, ⟨⟨w, Below.refl _ w⟩, rfl⟩, fun p => p.2, fun W h => ⟨⟨W, h⟩, rfl⟩⟩
end
end Go.Proofs.YtkhegeobdcemkaaGreatDoor

/- As QSegs2, the operations that come up one at a time may be guarded. No program in sight. -/
namespace Go.Proofs.YtkhegeobdcemkaaGreatDoor
set_option linter.unusedVariables false
open Go.RowKit

section
variable {P : Program} {ops : Array Oper} {Q : Exit → Act → World → Prop} {md : Region.Mode} {S S' : World → Prop} {b p : Nat → Bool}
def segsB3 (md : Region.Mode) (ops : Array Oper) (b p : Nat → Bool) (fw fr : List Nat) : List (List Nat × List Nat × Nat) → Array Bool → Bool
  | [], L => firstsB md ops b fw L && takesB md ops b p fr (setL fw L) && (Region.ready md ops (setL fr (setL fw L))).isEmpty
  | (ws, rs, i) :: ss, L => firstsB md ops b ws L && takesB md ops b p rs (setL ws L) && decide (Region.ready md ops (setL rs (setL ws L)) = [i]) && !p i && segsB3 md ops b p fw fr ss ((setL rs (setL ws L)).setIfInBounds i true)
/-- As wpSegs; behind each operation that comes up a stronger fact may be taken. -/
def wpSegs3 (P : Program) (l : List Oper) (Q : Exit → Act → World → Prop) (b : Nat → Bool) (fw fr : List Nat) : List (List Nat × List Nat × Nat) → (World → Prop) → Act → World → Prop
  | [], S, a, w => wpQuiet P l.toArray (fun _ => True) (wpQuiet P l.toArray S (fun a' => Q .normal a' w) (pick l fr)) (pick l fw) a
  | (ws, rs, i) :: ss, S, a, w => wpQuiet P l.toArray (fun _ => True) (wpQuiet P l.toArray S (fun a' => match l[i]? with
    | some o => (Region.wanted o (yielded l.toArray a'.tmps) = true ∧ o.wp P a' w (fun a1 w1 => ∃ S' : World → Prop, (∀ W, S' W → S W) ∧ (b i = true → S' w1) ∧ wpSegs3 P l Q b fw fr ss S' a1 w1) Q) ∨ (Region.wanted o (yielded l.toArray a'.tmps) = false ∧ ∃ S' : World → Prop, (∀ W, S' W → S W) ∧ (b i = true → S' w) ∧ wpSegs3 P l Q b fw fr ss S' (a'.put o.dst undef) w)
    | none => False) (pick l rs)) (pick l ws) a
def lenS3 (fw fr : List Nat) : List (List Nat × List Nat × Nat) → Nat
  | [] => fw.length + (fr.length + 0)
  | (ws, rs, _) :: ss => ws.length + (rs.length + (lenS3 fw fr ss + 1))
theorem wpT_segs3 {l : List Oper} {fw fr : List Nat} (hs : Region.noSelect l.toArray = true) (hQ : ∀ c a w d v, Q (.panic c) (Act.put a d v) w → Q (.panic c) a w)
    (hfw : ∀ r ∈ fw, ∃ o, l[r]? = some o ∧ readOp o = true) (hfr : ∀ r ∈ fr, ∃ o, l[r]? = some o ∧ readOp o = true) :
    ∀ (ss : List (List Nat × List Nat × Nat)) (S : World → Prop) (listed : Array Bool) (a : Act) (w : World), (∀ s ∈ ss, (∀ r ∈ s.1, ∃ o, l[r]? = some o ∧ readOp o = true) ∧ (∀ r ∈ s.2.1, ∃ o, l[r]? = some o ∧ readOp o = true)) → segsB3 md l.toArray b p fw fr ss listed = true →
      (S w ∨ (fr = [] ∧ ∀ s ∈ ss, s.2.1 = [])) → (∀ (k : Nat) s, ss[k]? = some s → b s.2.2 = false → fr = [] ∧ ∀ s' ∈ ss.drop (k + 1), s'.2.1 = []) → wpSegs3 P l Q b fw fr ss S a w → wpAnyT P md l.toArray Q S b p (lenS3 fw fr ss) listed a w
  | [], S, listed, a, w, _, hB, hSw, _, h => by
    simp only [segsB3, Bool.and_eq_true] at hB
    obtain ⟨⟨hB0, hB1⟩, hB2⟩ := hB
    rw [lenS3]
    refine wpT_firsts hs hQ fw listed a hfw hB0 (wpQuiet_mono (fun a0 h0 => ?_) h)
    have key : ∀ a', Q .normal a' w → wpAnyT P md l.toArray Q S b p 0 (setL fr (setL fw listed)) a' w := fun a' ha => ⟨by simpa using hB2, ha⟩
    rcases hSw with hSw | ⟨hSw, _⟩
    · exact wpT_reads hs hQ hSw fr _ a0 hfr hB1 (wpQuiet_mono key h0)
    · subst hSw
      exact key a0 h0
  | (ws, rs, i) :: ss, S, listed, a, w, hg, hB, hSw, ho, h => by
    simp only [segsB3, Bool.and_eq_true, decide_eq_true_eq, Bool.not_eq_true'] at hB
    obtain ⟨⟨⟨⟨hB0, hB1⟩, hB2⟩, hpi⟩, hB3⟩ := hB
    have key : ∀ a', (match l[i]? with
        | some o => (Region.wanted o (yielded l.toArray a'.tmps) = true ∧ o.wp P a' w (fun a1 w1 => ∃ S' : World → Prop, (∀ W, S' W → S W) ∧ (b i = true → S' w1) ∧ wpSegs3 P l Q b fw fr ss S' a1 w1) Q) ∨ (Region.wanted o (yielded l.toArray a'.tmps) = false ∧ ∃ S' : World → Prop, (∀ W, S' W → S W) ∧ (b i = true → S' w) ∧ wpSegs3 P l Q b fw fr ss S' (a'.put o.dst undef) w)
        | none => False) → wpAnyT P md l.toArray Q S b p (lenS3 fw fr ss + 1) (setL rs (setL ws listed)) a' w := by
      intro a' ha
      refine ⟨fun h0 => (by rw [hB2] at h0; cases h0), fun j hj => ?_⟩
      rw [hB2] at hj
      obtain rfl : j = i := by simpa using hj
      cases hl : l[j]? with
      | none => rw [hl] at ha; exact ha.elim
      | some o =>
        rw [hl] at ha
        have h0 : l.toArray[j]? = some o := by simpa using hl
        unfold wpOp
        simp only [h0]
        rcases ha with ⟨hw1, ha⟩ | ⟨hw1, S', hSS, hS1, hh⟩
        · rw [if_pos hw1]
          refine .inl (Oper.wp_mono (fun a1 w1 hh => ?_) ha)
          obtain ⟨S', hSS, hS1, hh⟩ := hh
          refine ⟨⟨fun hb => hSS _ (hS1 hb), fun h => by rw [hpi] at h; cases h⟩, wpAnyT_monoS hSS _ _ _ _ ?_⟩
          refine wpT_segs3 hs hQ hfw hfr ss S' _ a1 w1 (fun s hs => hg s (by simp [hs])) hB3 ?_ (fun k s hk hn => ho (k + 1) s (by simpa using hk) hn) hh
          cases hbj : b j with
          | true => exact .inl (hS1 hbj)
          | false => exact .inr ⟨(ho 0 (ws, rs, j) (by simp) hbj).1, fun s hs => (ho 0 (ws, rs, j) (by simp) hbj).2 s (by simpa using hs)⟩
        · rw [if_neg (by rw [hw1]; decide)]
          refine ⟨⟨fun hb => hSS _ (hS1 hb), fun h => by rw [hpi] at h; cases h⟩, wpAnyT_monoS hSS _ _ _ _ ?_⟩
          refine wpT_segs3 hs hQ hfw hfr ss S' _ _ w (fun s hs => hg s (by simp [hs])) hB3 ?_ (fun k s hk hn => ho (k + 1) s (by simpa using hk) hn) hh
          cases hbj : b j with
          | true => exact .inl (hS1 hbj)
          | false => exact .inr ⟨(ho 0 (ws, rs, j) (by simp) hbj).1, fun s hs => (ho 0 (ws, rs, j) (by simp) hbj).2 s (by simpa using hs)⟩
    rw [lenS3]
    refine wpT_firsts hs hQ ws listed a (hg (ws, rs, i) (by simp)).1 hB0 (wpQuiet_mono (fun a0 h0 => ?_) h)
    rcases hSw with hSw | hSw
    · exact wpT_reads hs hQ hSw rs _ a0 (hg (ws, rs, i) (by simp)).2 hB1 (wpQuiet_mono key h0)
    · have hrs : rs = [] := hSw.2 (ws, rs, i) (by simp)
      subst hrs
      have h2 := key a0 h0
      rw [List.length_nil, Nat.zero_add]
      exact h2
/-- One segment at a time, what follows behind a variable. -/
theorem wpSegs3_step {l : List Oper} {fw fr ws rs : List Nat} {i : Nat} {ss : List (List Nat × List Nat × Nat)} {a : Act} {w : World} {o : Oper} {wl rl : List Oper} (hw : pick l ws = wl) (hp : pick l rs = rl) (ho : l[i]? = some o)
    (h : ∀ K : Act → World → Prop, (∀ (S' : World → Prop) a1 w1, (∀ W, S' W → S W) → S' w1 → wpSegs3 P l Q b fw fr ss S' a1 w1 → K a1 w1) → ∀ K2 : Act → Prop, (∀ a0, wpQuiet P l.toArray S (fun a' => (Region.wanted o (yielded l.toArray a'.tmps) = true ∧ o.wp P a' w (fun a1 w1 => K a1 w1) Q) ∨ (Region.wanted o (yielded l.toArray a'.tmps) = false ∧ K (a'.put o.dst undef) w)) rl a0 → K2 a0) → wpQuiet P l.toArray (fun _ => True) K2 wl a) : wpSegs3 P l Q b fw fr ((ws, rs, i) :: ss) S a w := by
  subst hp; subst hw
  simp only [wpSegs3, ho]
  exact h (fun a1 w1 => ∃ S' : World → Prop, (∀ W, S' W → S W) ∧ (b i = true → S' w1) ∧ wpSegs3 P l Q b fw fr ss S' a1 w1) (fun S' _ _ h1 h2 h3 => ⟨S', h1, fun _ => h2, h3⟩) _ (fun _ h => h)
/-- The last operation that comes up: what holds of memory is not asked. -/
theorem wpSegs3_last {l : List Oper} {fw fr ws rs : List Nat} {i : Nat} {ss : List (List Nat × List Nat × Nat)} {a : Act} {w : World} {o : Oper} {wl rl : List Oper} (hw : pick l ws = wl) (hp : pick l rs = rl) (ho : l[i]? = some o) (hb : b i = false)
    (h : ∀ K : Act → World → Prop, (∀ a1 w1, wpSegs3 P l Q b fw fr ss S a1 w1 → K a1 w1) → ∀ K2 : Act → Prop, (∀ a0, wpQuiet P l.toArray S (fun a' => (Region.wanted o (yielded l.toArray a'.tmps) = true ∧ o.wp P a' w (fun a1 w1 => K a1 w1) Q) ∨ (Region.wanted o (yielded l.toArray a'.tmps) = false ∧ K (a'.put o.dst undef) w)) rl a0 → K2 a0) → wpQuiet P l.toArray (fun _ => True) K2 wl a) : wpSegs3 P l Q b fw fr ((ws, rs, i) :: ss) S a w := by
  subst hp; subst hw
  simp only [wpSegs3, ho]
  exact h (fun a1 w1 => ∃ S' : World → Prop, (∀ W, S' W → S W) ∧ (b i = true → S' w1) ∧ wpSegs3 P l Q b fw fr ss S' a1 w1) (fun _ _ h3 => ⟨S, fun _ h => h, fun h => (by rw [hb] at h; cases h), h3⟩) _ (fun _ h => h)
/-- The reads that end the region. -/
theorem wpSegs3_fin {l : List Oper} {fw fr : List Nat} {a : Act} {w : World} {wl rl : List Oper} (hw : pick l fw = wl) (hp : pick l fr = rl)
    (h : ∀ K2 : Act → Prop, (∀ a0, wpQuiet P l.toArray S (fun a' => Q .normal a' w) rl a0 → K2 a0) → wpQuiet P l.toArray (fun _ => True) K2 wl a) : wpSegs3 P l Q b fw fr [] S a w := by
  subst hp; subst hw
  exact h _ (fun _ h => h)
theorem wpSegs3_end {l : List Oper} {a : Act} {w : World} (h : Q .normal a w) : wpSegs3 P l Q b [] [] [] S a w := h
/-- What the kernel looks at. -/
def segsOk3 (l : List Oper) (bs fw fr : List Nat) (ss : List (List Nat × List Nat × Nat)) : Bool :=
  Region.noSelect l.toArray && segsB3 .any l.toArray bs.contains (pureB l) fw fr ss (Array.replicate l.toArray.size false) && decide (lenS3 fw fr ss = l.toArray.size)
    && (ss.all fun s => s.1.all (pureB l) && s.2.1.all (pureB l))
    && ((List.range ss.length).all fun k => match ss[k]? with | some s => bs.contains s.2.2 || (fr.isEmpty && (ss.drop (k + 1)).all fun s' => s'.2.1.isEmpty) | none => true)
    && fw.all (pureB l) && fr.all (pureB l)
theorem wp_region_segs3 {id : Nat} {a : Act} {w : World} {l : List Oper} (bs fw fr : List Nat) (ss : List (List Nat × List Nat × Nat)) (hm : P.follows .mixedOrders = true) (hB : segsOk3 l bs fw fr ss = true) (hQ : ∀ c a w d v, Q (.panic c) (Act.put a d v) w → Q (.panic c) a w) (S : World → Prop) (hS : S w.drew)
    (h : wpSegs3 P l Q bs.contains fw fr ss S a w.drew) : (Code.region id l.toArray true).wp P Q a w := by
  simp only [segsOk3, Bool.and_eq_true, decide_eq_true_eq] at hB
  obtain ⟨⟨⟨⟨⟨⟨h1, h3⟩, h4⟩, h6⟩, h7⟩, h8⟩, h9⟩ := hB
  refine wp_region_any hm (wpAny_of_T (S := S) (b := bs.contains) (p := pureB l) _ _ _ _ ?_)
  refine Eq.mp (congrArg (fun k => wpAnyT P .any l.toArray Q S bs.contains (pureB l) k (Array.replicate l.toArray.size false) a w.drew) h4) ?_
  refine wpT_segs3 h1 hQ (reads_of h8) (reads_of h9) ss S _ a w.drew (fun s hs => ?_) h3 (.inl hS) (fun k s hk hn => ?_) h
  · have := List.all_eq_true.1 h6 s hs
    simp only [Bool.and_eq_true] at this
    exact ⟨reads_of this.1, reads_of this.2⟩
  · have hkl : k < ss.length := (List.getElem?_eq_some_iff.1 hk).1
    have h8 := List.all_eq_true.1 h7 k (List.mem_range.2 hkl)
    rw [hk] at h8
    simp only [Bool.or_eq_true, Bool.and_eq_true] at h8
    rcases h8 with h8 | ⟨h8, h9⟩
    · rw [hn] at h8; cases h8
    · refine ⟨by simpa using h8, fun s' hs' => ?_⟩
      have := List.all_eq_true.1 h9 s' hs'
      simpa using this
end
end Go.Proofs.YtkhegeobdcemkaaGreatDoor

/- A region that draws its order: what stands ahead of its last operations is quiet in a class of worlds; the last ones come one behind the other. No program in sight. (The proofs follow the kit's for regions that are still and for regions that are quiet.) -/
namespace Go.Proofs.YtkhegeobdcemkaaGreatDoor
set_option linter.unusedVariables false
open Go.Sort

section
variable {P : Program} {ops : Array Oper} {md : Region.Mode} {C : World → Prop}

def wpAnyM (P : Program) (md : Region.Mode) (ops : Array Oper) (C : World → Prop) (n : Nat) (L : Array Bool → Act → Prop) : Nat → Array Bool → Act → Prop
  | 0, listed, a => L listed a
  | f + 1, listed, a => Region.ready md ops listed ≠ [] ∧ ∀ i ∈ Region.ready md ops listed, i < n ∧ qOp P ops C i (wpAnyM P md ops C n L f (listed.setIfInBounds i true)) a

theorem wpAny_of_headM {n g : Nat} {L : Array Bool → Act → Prop} {Q' : Exit → Act → World → Prop} (hL : ∀ listed a w, C w → L listed a → wpAny P md ops Q' g listed a w) :
    ∀ (f : Nat) (listed : Array Bool) (a : Act) (w : World), C w → wpAnyM P md ops C n L f listed a → wpAny P md ops Q' (f + g) listed a w
  | 0, listed, a, w, hw, h => by rw [Nat.zero_add]; exact hL _ _ _ hw h
  | f + 1, listed, a, w, hw, h => by
    rw [show f + 1 + g = (f + g) + 1 by omega]
    exact ⟨fun h0 => absurd h0 h.1, fun i hi => wpOp_of_qOp hw (fun a' w' hw' h' => wpAny_of_headM hL f _ a' w' hw' h') (h.2 i hi).2⟩

/-- Each operation from k on, ahead of number n, is waited for by one behind it, number n at the latest. -/
def sinkF (md : Region.Mode) (ops : Array Oper) (k n : Nat) : Bool :=
  (List.range n).all fun i => decide (i < k) || (List.range (n + 1)).any fun j => decide (i < j) && Region.waitsFor md ops j i
theorem tailF_waits {k n : Nat} {listed : Array Bool} (hs : sinkF md ops k n = true) (hc : Region.chainB md ops n = true) (hn : n < ops.size) (inv : HeadInv md ops n listed) :
    ∀ (d i : Nat), n - i = d → k ≤ i → i < n → listed.getD i true = false → ∀ t, n ≤ t → t ∉ Region.ready md ops listed := by
  intro d
  induction d using Nat.strongRecOn with
  | _ d ih =>
    intro i hd hki hi hun t ht hr
    obtain ⟨_, ot, hot, hall⟩ := mem_ready.1 hr
    have htlt : t < ops.size := (Array.getElem?_eq_some_iff.1 hot).1
    by_cases htn : t = n
    · subst htn
      have h1 := List.all_eq_true.1 hs i (List.mem_range.2 hi)
      rw [Bool.or_eq_true] at h1
      obtain ⟨j, hj, hj2⟩ := List.any_eq_true.1 (h1.resolve_left (by simp; omega))
      simp only [Bool.and_eq_true, decide_eq_true_eq] at hj2
      obtain ⟨oj, hoj, e, he, hb, hon⟩ := Region.waitsFor_spec hj2.2
      have hjle : j ≤ t := by have := List.mem_range.1 hj; omega
      by_cases hjt : j = t
      · subst hjt
        have : oj = ot := Option.some.inj (hoj.symm.trans hot)
        subst this
        have h2 := hall e he hb
        rw [hon, getD_both hun] at h2
        cases h2
      · cases hl : listed.getD j false with
        | true =>
          have h2 := inv.closed j oj hoj hl e he hb
          rw [hon, getD_both hun] at h2
          cases h2
        | false =>
          have hjs : j < listed.size := by rw [inv.size]; omega
          exact ih (t - j) (by omega) j rfl (by omega) (by omega) (getD_in hjs hl) t (Nat.le_refl _) hr
    · have h1 := List.all_eq_true.1 hc t (List.mem_range.2 htlt)
      simp only [Bool.or_eq_true, decide_eq_true_eq] at h1
      rcases h1 with h1 | h1
      · omega
      · obtain ⟨o', ho', e, he, hb, hon⟩ := Region.waitsFor_spec h1
        have : o' = ot := Option.some.inj (ho'.symm.trans hot)
        subst this
        have h2 := hall e he hb
        rw [hon, getD_both (inv.tail (t - 1) (by omega) (by omega))] at h2
        cases h2

theorem wpAnyM_first {k0 n i : Nat} {oi : Oper} {v : Value} {L : Array Bool → Act → Prop} (hi : ops[i]? = some oi) (hsel : ∀ (j : Nat) (o : Oper) cs b, ops[j]? = some o → o.op ≠ .select cs b)
    (hs : sinkF md ops k0 n = true) (hc : Region.chainB md ops n = true) (hn : n < ops.size) (hki : k0 ≤ i) (hin : i < n)
    (hdone : ∀ listed a, L listed a → ∀ j ∈ Region.ready md ops listed, n ≤ j) :
    ∀ (f : Nat) (listed : Array Bool) (a : Act), HeadInv md ops n listed →
      (∀ j oj, ops[j]? = some oj → j ≠ i → listed.getD j true = false → (∀ e ∈ oj.after, Region.binds md e = true → e.on ≠ i) → oi.apart ops oj = true) →
      i ∈ Region.ready md ops listed → YieldsIn P ops C oi v a →
      wpAnyM P md ops C n L f (listed.setIfInBounds i true) (a.put oi.dst v) → wpAnyM P md ops C n L (f + 1) listed a := by
  intro f
  induction f with
  | zero =>
    intro listed a inv _ hr hy H
    have hun := (mem_ready.1 hr).1
    refine ⟨fun h => (by rw [h] at hr; cases hr), fun j hj => ?_⟩
    have hjn : j < n := (Nat.lt_or_ge j n).resolve_right fun h => tailF_waits hs hc hn inv _ i rfl hki hin hun j h hj
    refine ⟨hjn, ?_⟩
    by_cases hji : j = i
    · subst hji; exact hy.qOp hi H
    · have := hdone _ _ H j (ready_mono hj hji)
      omega
  | succ f ih =>
    intro listed a inv hfree hr hy H
    have hun := (mem_ready.1 hr).1
    refine ⟨fun h => (by rw [h] at hr; cases hr), fun j hj => ?_⟩
    have hjn : j < n := (Nat.lt_or_ge j n).resolve_right fun h => tailF_waits hs hc hn inv _ i rfl hki hin hun j h hj
    refine ⟨hjn, ?_⟩
    by_cases hji : j = i
    · subst hji; exact hy.qOp hi H
    · have h1 := (H.2 j (ready_mono hj hji)).2
      obtain ⟨hjun, oj, hoj, hall⟩ := mem_ready.1 hj
      have hnot : ∀ e ∈ oj.after, Region.binds md e = true → e.on ≠ i := fun e he hb heq => by
        have h1 := hall e he hb
        rw [heq, getD_both hun] at h1
        cases h1
      have h2 := qOp_put hoj (hfree j oj hoj hji hjun hnot) (fun cs b => hsel i oi cs b hi) (fun cs b => hsel j oj cs b hoj) hy h1
      have hfree' : ∀ k ok, ops[k]? = some ok → k ≠ i → (listed.setIfInBounds j true).getD k true = false →
          (∀ e ∈ ok.after, Region.binds md e = true → e.on ≠ i) → oi.apart ops ok = true := fun k ok hk hki hun hno => by
        refine hfree k ok hk hki ?_ hno
        by_cases hjk : j = k
        · subst hjk; exact hjun
        · rw [getD_set_ne true hjk] at hun; exact hun
      refine qOp_mono (fun a' h3 => ih (listed.setIfInBounds j true) a' (inv.set hj hjn) hfree' (ready_mono hr (Ne.symm hji)) h3.1 ?_) h2
      rw [Array.setIfInBounds_comm _ _ hji]
      exact h3.2

theorem wpAnyM_lex {k0 n g : Nat} {Lq : Act → Prop} (hsel : Region.noSelect ops = true) (hs : sinkF md ops k0 n = true) (hc : Region.chainB md ops n = true) (hn : n < ops.size) :
    ∀ (l : List Oper) (k : Nat) (listed : Array Bool) (a : Act), k0 ≤ k → (∀ j, j < l.length → l[j]? = ops[k + j]?) → k + l.length = n → HeadInv md ops n listed →
    Region.lexHead md ops g l.length k listed = true → wpQuiet P ops C Lq l a →
    wpAnyM P md ops C n (fun listed' a' => Region.seqB md ops g n listed' = true ∧ Lq a') l.length listed a
  | [], k, listed, a, _, _, hk, _, hB, h => by
    have : k = n := by simpa using hk
    subst this
    exact ⟨by simpa [Region.lexHead] using hB, h⟩
  | o :: l, k, listed, a, hk0, hl, hk, inv, hB, h => by
    have h0 : ops[k]? = some o := by simpa using (hl 0 (by simp)).symm
    simp only [List.length_cons, Region.lexHead, Bool.and_eq_true] at hB
    obtain ⟨⟨hr, hf⟩, hB'⟩ := hB
    have hkn : k < n := by simp only [List.length_cons] at hk; omega
    have hr' : k ∈ Region.ready md ops listed := by simpa using hr
    have hst : qOp P ops C k (wpQuiet P ops C Lq l) a := by unfold qOp; simp only [h0]; exact h
    obtain ⟨v, hy, hK⟩ := yieldsIn_of_qOp h0 hst
    exact wpAnyM_first h0 (Region.noSelect_spec hsel) hs hc hn hk0 hkn (fun listed' a' hL => seqB_ready hL.1) l.length listed a inv (Region.free_spec h0 hf) hr' hy
      (wpAnyM_lex hsel hs hc hn l (k + 1) _ _ (by omega) (fun j hj => by have := hl (j + 1) (by simp; omega); simpa [Nat.add_assoc, Nat.add_comm 1 j] using this) (by simp only [List.length_cons] at hk; omega) (inv.set hr' hkn) hB' hK)

/-- The order of a region's text, from number k on, of operations that come first, then one behind the other. -/
def lexTailF (ops : Array Oper) (k n : Nat) (listed : Array Bool) : Bool :=
  Region.noSelect ops && decide (n < ops.size) && decide (k ≤ n) && sinkF .any ops k n && Region.chainB .any ops n && Region.lexHead .any ops (ops.size - n) (n - k) k listed
theorem wpAny_tail {k n : Nat} {Q : Exit → Act → World → Prop} {a : Act} {w : World} {l : List Oper} {listed : Array Bool} (hB : lexTailF l.toArray k n listed = true) (inv : HeadInv .any l.toArray n listed) (hC : C w)
    (h : wpQuiet P l.toArray C (fun a' => ∀ w', C w' → wpList P l.toArray Q (l.drop n) a' w') ((l.take n).drop k) a) : wpAny P .any l.toArray Q (l.length - k) listed a w := by
  simp only [lexTailF, Bool.and_eq_true, decide_eq_true_eq] at hB
  obtain ⟨⟨⟨⟨⟨hsel, hn⟩, hkn⟩, hs⟩, hc⟩, hlex⟩ := hB
  have hn' : n < l.length := by simpa using hn
  have htl : ((l.take n).drop k).length = n - k := by simp; omega
  have hdl : (l.drop n).length = l.toArray.size - n := by simp
  have H := wpAnyM_lex (md := .any) (g := l.toArray.size - n) hsel hs hc hn ((l.take n).drop k) k listed a (Nat.le_refl _) (fun j hj => by
    have hj' : j < n - k := by rw [htl] at hj; exact hj
    rw [List.getElem?_drop, List.getElem?_take, if_pos (by omega)]; simp) (by rw [htl]; omega) inv (by rw [htl]; exact hlex) h
  have := wpAny_of_headM (Q' := Q) (g := l.toArray.size - n) (fun listed a' w' hw hL => by
    have := wpAny_of_seq (md := .any) (Q' := Q) (l.drop n) n listed a' w' (fun j => by simp [List.getElem?_drop]) (by rw [hdl]; exact hL.1) (hL.2 w' hw)
    rwa [hdl] at this) _ _ _ _ hC H
  rw [htl, show n - k + (l.toArray.size - n) = l.length - k by simp; omega] at this
  exact this
theorem inv_start (l : List Oper) (n : Nat) : HeadInv .any l.toArray n (Array.replicate l.length false) :=
  ⟨by simp, fun j oj _ hl => (by rw [getD_replicate_false] at hl; cases hl), fun t _ ht => getD_in (by simpa using ht) (getD_replicate_false _ _)⟩
theorem wp_region_quiet_tail {id : Nat} {Q : Exit → Act → World → Prop} {a : Act} {w : World} {l : List Oper} (n : Nat) (hm : P.follows .mixedOrders = true) (hB : lexTailF l.toArray 0 n (Array.replicate l.length false) = true) (hC : C { w with drawn := w.drawn + 1 })
    (h : wpQuiet P l.toArray C (fun a' => ∀ w', C w' → wpList P l.toArray Q (l.drop n) a' w') (l.take n) a) : (Code.region id l.toArray true).wp P Q a w := by
  refine wp_region_any hm ?_
  have := wpAny_tail (k := 0) hB (inv_start l n) hC (by simpa using h)
  simpa using this
theorem wp_region_quiet_tail1 {id : Nat} {Q : Exit → Act → World → Prop} {a : Act} {w : World} {o0 : Oper} {v0 : Value} {l : List Oper} (n : Nat) (hm : P.follows .mixedOrders = true) (hB : lexTailF (o0 :: l).toArray 1 n ((Array.replicate (o0 :: l).length false).setIfInBounds 0 true) = true)
    (hf : Region.free .any (o0 :: l).toArray (Array.replicate (o0 :: l).length false) 0 = true) (hr : (Region.ready .any (o0 :: l).toArray (Array.replicate (o0 :: l).length false)).contains 0 = true)
    (hQ : ∀ c a w, Q (.panic c) (a.put o0.dst v0) w → Q (.panic c) a w) (hy : Yields P (o0 :: l).toArray o0 v0 a) (hC : C { w with drawn := w.drawn + 1 })
    (h : wpQuiet P (o0 :: l).toArray C (fun a' => ∀ w', C w' → wpList P (o0 :: l).toArray Q ((o0 :: l).drop n) a' w') (((o0 :: l).take n).drop 1) (a.put o0.dst v0)) : (Code.region id (o0 :: l).toArray true).wp P Q a w := by
  refine wp_region_any hm ?_
  have hB2 := hB
  simp only [lexTailF, Bool.and_eq_true, decide_eq_true_eq] at hB2
  have hn1 : 1 ≤ n := hB2.1.1.1.2
  have hr' : (0 : Nat) ∈ Region.ready .any (o0 :: l).toArray (Array.replicate (o0 :: l).length false) := by simpa using hr
  have h1 := wpAny_tail (k := 1) hB ((inv_start (o0 :: l) n).set hr' (by omega)) hC h
  have h2 := wpAny_take (P := P) (md := .any) (ops := (o0 :: l).toArray) (i := 0) (oi := o0) (v := v0) (fuel := l.length) (listed := Array.replicate (o0 :: l).length false) (a := a) (w := { w with drawn := w.drawn + 1 }) (Q := Q) rfl hB2.1.1.1.1.1 hf hr hQ hy (by simpa using h1)
  simpa using h2
theorem wp_region_below_tail {id : Nat} {Q : Exit → Act → World → Prop} {a : Act} {w : World} {l : List Oper} (n : Nat) (hm : P.follows .mixedOrders = true) (hB : lexTailF l.toArray 0 n (Array.replicate l.length false) = true)
    (h : wpQuiet P l.toArray (fun w' => ∃ p : Regrown, w' = grow (redrawn w p.d) p.os) (fun a' => ∀ w', (∃ p : Regrown, w' = grow (redrawn w p.d) p.os) → wpList P l.toArray Q (l.drop n) a' w') (l.take n) a) : (Code.region id l.toArray true).wp P Q a w :=
  wp_region_quiet_tail (C := fun w' => ∃ p : Regrown, w' = grow (redrawn w p.d) p.os) n hm hB ⟨⟨w.drawn + 1, #[]⟩, by rw [grow_empty]; rfl⟩ h
theorem wp_region_below_tail1 {id : Nat} {Q : Exit → Act → World → Prop} {a : Act} {w : World} {o0 : Oper} {v0 : Value} {l : List Oper} (n : Nat) (hm : P.follows .mixedOrders = true) (hB : lexTailF (o0 :: l).toArray 1 n ((Array.replicate (o0 :: l).length false).setIfInBounds 0 true) = true)
    (hf : Region.free .any (o0 :: l).toArray (Array.replicate (o0 :: l).length false) 0 = true) (hr : (Region.ready .any (o0 :: l).toArray (Array.replicate (o0 :: l).length false)).contains 0 = true)
    (hQ : ∀ c a w, Q (.panic c) (a.put o0.dst v0) w → Q (.panic c) a w) (hy : Yields P (o0 :: l).toArray o0 v0 a)
    (h : wpQuiet P (o0 :: l).toArray (fun w' => ∃ p : Regrown, w' = grow (redrawn w p.d) p.os) (fun a' => ∀ w', (∃ p : Regrown, w' = grow (redrawn w p.d) p.os) → wpList P (o0 :: l).toArray Q ((o0 :: l).drop n) a' w') (((o0 :: l).take n).drop 1) (a.put o0.dst v0)) : (Code.region id (o0 :: l).toArray true).wp P Q a w :=
  wp_region_quiet_tail1 (C := fun w' => ∃ p : Regrown, w' = grow (redrawn w p.d) p.os) n hm hB hf hr hQ hy ⟨⟨w.drawn + 1, #[]⟩, by rw [grow_empty]; rfl⟩ h
/-- The head leaves the world but for draws. -/
theorem wp_region_drewN_tail {id : Nat} {Q : Exit → Act → World → Prop} {a : Act} {w : World} {l : List Oper} (n : Nat) (hm : P.follows .mixedOrders = true) (hB : lexTailF l.toArray 0 n (Array.replicate l.length false) = true)
    (h : wpQuiet P l.toArray (fun w' => ∃ m, w' = w.drewN m) (fun a' => ∀ w', (∃ m, w' = w.drewN m) → wpList P l.toArray Q (l.drop n) a' w') (l.take n) a) : (Code.region id l.toArray true).wp P Q a w :=
  wp_region_quiet_tail (C := fun w' => ∃ m, w' = w.drewN m) n hm hB ⟨1, rfl⟩ h
end
end Go.Proofs.YtkhegeobdcemkaaGreatDoor

/- Data that lies in memory: rows of elements, also elements that hold slices of their own. No program in sight. -/
namespace Go.Proofs.YtkhegeobdcemkaaGreatDoor
set_option linter.unusedVariables false
open Go.RowKit

/-- How a kind of data lies: so many cells; what they hold, and what lies behind them in blocks of F. -/
structure Rep (α : Type) where
  n : Nat
  rel : World → (Nat → Prop) → α → List Value → Prop
  len : ∀ {w F x cs}, rel w F x cs → cs.length = n
  keep : ∀ {w w' : World} {F : Nat → Prop} {x cs}, rel w F x cs → (∀ b, F b → w'.heap[b]? = w.heap[b]?) → rel w' F x cs
  more : ∀ {w F G x cs}, rel w F x cs → (∀ b, F b → G b) → rel w G x cs

/-- Data of cells alone. -/
def Rep.flat {α : Type} (n : Nat) (enc : α → List Value) (h : ∀ x, (enc x).length = n) : Rep α :=
  ⟨n, fun _ _ x cs => cs = enc x, fun e => by subst e; exact h _, fun e _ => e, fun e _ => e⟩
def strR : Rep ByteArray := Rep.flat 1 (fun s => [.string s]) (fun _ => rfl)
def intR : Rep Int := Rep.flat 1 (fun x => [.int .i64 x]) (fun _ => rfl)

/-- The cells of a row of elements. -/
def Lay {α : Type} (R : Rep α) (w : World) (F : Nat → Prop) (l : List α) (cs : List Value) : Prop :=
  cs.length = l.length * R.n ∧ ∀ (k : Nat) (x : α), l[k]? = some x → R.rel w F x ((cs.drop (k * R.n)).take R.n)

section
variable {α : Type} {R : Rep α} {w w' : World} {F G : Nat → Prop} {l : List α} {cs : List Value}
theorem Lay.nil_ : Lay R w F [] [] := ⟨by simp, fun k x h => by simp at h⟩
theorem Lay.keep (h : Lay R w F l cs) (hk : ∀ b, F b → w'.heap[b]? = w.heap[b]?) : Lay R w' F l cs := ⟨h.1, fun k x hx => R.keep (h.2 k x hx) hk⟩
theorem Lay.more (h : Lay R w F l cs) (hk : ∀ b, F b → G b) : Lay R w G l cs := ⟨h.1, fun k x hx => R.more (h.2 k x hx) hk⟩
theorem Lay.snoc {x : α} {a : List Value} (h : Lay R w F l cs) (ha : R.rel w F x a) : Lay R w F (l ++ [x]) (cs ++ a) := by
  have hl := R.len ha
  refine ⟨by simp [h.1, hl, Nat.add_mul], fun k y hy => ?_⟩
  by_cases hk : k < l.length
  · rw [List.getElem?_append_left hk] at hy
    have h2 := h.2 k y hy
    have h3 : (k + 1) * R.n ≤ cs.length := by rw [h.1]; exact Nat.mul_le_mul_right _ hk
    rw [Nat.add_mul, Nat.one_mul] at h3
    rw [List.drop_append_of_le_length (by omega), List.take_append_of_le_length (by simp; omega)]
    exact h2
  · have hk2 : k = l.length := by
      have := (List.getElem?_eq_some_iff.1 hy).1
      simp at this; omega
    subst hk2
    rw [List.getElem?_append_right (Nat.le_refl _)] at hy
    simp at hy
    subst hy
    rw [← h.1, List.drop_left' rfl, List.take_of_length_le (by omega)]
    exact ha
theorem Lay.app {l' : List α} {cs' : List Value} (h : Lay R w F l cs) (h' : Lay R w F l' cs') : Lay R w F (l ++ l') (cs ++ cs') := by
  refine ⟨by simp [h.1, h'.1, Nat.add_mul], fun k y hy => ?_⟩
  by_cases hk : k < l.length
  · rw [List.getElem?_append_left hk] at hy
    have h2 := h.2 k y hy
    have h3 : (k + 1) * R.n ≤ cs.length := by rw [h.1]; exact Nat.mul_le_mul_right _ hk
    rw [Nat.add_mul, Nat.one_mul] at h3
    rw [List.drop_append_of_le_length (by omega), List.take_append_of_le_length (by simp; omega)]
    exact h2
  · rw [List.getElem?_append_right (by omega)] at hy
    have := h'.2 _ y hy
    rw [show (cs ++ cs').drop (k * R.n) = cs'.drop ((k - l.length) * R.n) by
      rw [List.drop_append, List.drop_eq_nil_of_le (by rw [h.1]; exact Nat.mul_le_mul_right _ (by omega)), List.nil_append, h.1, Nat.sub_mul]]
    exact this
theorem Lay.one {x : α} {a : List Value} (ha : R.rel w F x a) : Lay R w F [x] a := by simpa using Lay.nil_.snoc ha
theorem Lay.drop (h : Lay R w F l cs) (k : Nat) : Lay R w F (l.drop k) (cs.drop (k * R.n)) := by
  refine ⟨by simp [h.1, Nat.sub_mul], fun j x hx => ?_⟩
  rw [List.getElem?_drop] at hx
  have := h.2 _ x hx
  rw [List.drop_drop, ← Nat.add_mul]
  exact this
theorem Lay.take (h : Lay R w F l cs) (k : Nat) : Lay R w F (l.take k) (cs.take (k * R.n)) := by
  refine ⟨?_, fun j x hx => ?_⟩
  · rw [List.length_take, List.length_take, h.1]
    rcases Nat.le_total k l.length with hk | hk
    · rw [Nat.min_eq_left hk, Nat.min_eq_left (Nat.mul_le_mul_right _ hk)]
    · rw [Nat.min_eq_right hk, Nat.min_eq_right (Nat.mul_le_mul_right _ hk)]
  · have hj : j < k := by
      have := (List.getElem?_eq_some_iff.1 hx).1
      simp at this; omega
    rw [List.getElem?_take_of_lt hj] at hx
    have h2 := h.2 j x hx
    have h3 : (j + 1) * R.n ≤ k * R.n := Nat.mul_le_mul_right _ hj
    rw [Nat.add_mul, Nat.one_mul] at h3
    rw [List.drop_take, List.take_take, Nat.min_eq_left (by omega)]
    exact h2
end

/-- A slice value that reads as a list. -/
def Sli {α : Type} (R : Rep α) (w : World) (F : Nat → Prop) (l : List α) (v : Value) : Prop :=
  ∃ A c, v = .slice A l.length c ∧ l.length ≤ c ∧ c ≤ 9223372036854775807 ∧ (0 < l.length → ∃ b off cs, A = some ⟨b, off, none⟩ ∧ F b ∧ Lay R w F l cs ∧ ∀ j u, cs[j]? = some u → w.cell? ⟨b, off + j, none⟩ = some u)

section
variable {α : Type} {R : Rep α} {w w' : World} {F G : Nat → Prop} {l : List α} {v : Value}
theorem cell_of_heap {b o : Nat} (h : w'.heap[b]? = w.heap[b]?) : w'.cell? ⟨b, o, none⟩ = w.cell? ⟨b, o, none⟩ := World.cell?_of_block (a := ⟨b, o, none⟩) h
theorem Sli.keep (h : Sli R w F l v) (hk : ∀ b, F b → w'.heap[b]? = w.heap[b]?) : Sli R w' F l v := by
  obtain ⟨A, c, e, h1, h2, h3⟩ := h
  refine ⟨A, c, e, h1, h2, fun h0 => ?_⟩
  obtain ⟨b, off, cs, ea, hb, hl, hc⟩ := h3 h0
  exact ⟨b, off, cs, ea, hb, hl.keep hk, fun j u hj => (cell_of_heap (hk b hb)).trans (hc j u hj)⟩
theorem Sli.more (h : Sli R w F l v) (hk : ∀ b, F b → G b) : Sli R w G l v := by
  obtain ⟨A, c, e, h1, h2, h3⟩ := h
  refine ⟨A, c, e, h1, h2, fun h0 => ?_⟩
  obtain ⟨b, off, cs, ea, hb, hl, hc⟩ := h3 h0
  exact ⟨b, off, cs, ea, hk b hb, hl.more hk, hc⟩
theorem Sli.nil_ : Sli R w F [] (.slice none 0 0) := ⟨none, 0, rfl, Nat.le_refl _, by omega, fun h => absurd h (by simp)⟩
theorem Sli.below {B : Nat} (h : Sli R w F l v) (hb : Below B w w') (hF : ∀ b, F b → b < B) : Sli R w' F l v := h.keep fun b hf => hb.block b (hF b hf)
theorem Sli.alloc (h : Sli R w F l v) (o : Obj) (hF : ∀ b, F b → b < w.heap.size) : Sli R (w.alloc o) F l v := h.keep fun b hf => Below.heap_alloc w o b (hF b hf)
theorem Sli.drew (h : Sli R w F l v) : Sli R w.drew F l v := h.keep fun _ _ => rfl
theorem Sli.drewN (h : Sli R w F l v) (n : Nat) : Sli R (w.drewN n) F l v := h.keep fun _ _ => rfl
theorem Sli.setCell (h : Sli R w F l v) {p : Addr} (u : Value) (hF : ¬ F p.block) : Sli R (w.setCell p u) F l v :=
  h.keep fun b hf => Below.heap_setCell w p u b (fun e => hF (by rw [← e]; exact hf))
theorem Sli.grown {g : Nat} (h : Sli R w F l v) (hg : w.grownBy w' (some g)) (hF : ∀ b, F b → b < w.heap.size ∧ b ≠ g) : Sli R w' F l v :=
  h.keep fun b hf => hg.block b (hF b hf).1 (by simpa using (hF b hf).2)
/-- Its form, and element k. -/
theorem Sli.form (h : Sli R w F l v) : ∃ A c, v = .slice A l.length c ∧ l.length ≤ c ∧ c ≤ 9223372036854775807 := by
  obtain ⟨A, c, e, h1, h2, _⟩ := h; exact ⟨A, c, e, h1, h2⟩
theorem Sli.at_ {A : Option Addr} {n c : Nat} (h : Sli R w F l (.slice A n c)) (k : Nat) (hk : k < l.length) :
    ∃ b off a, A = some ⟨b, off, none⟩ ∧ F b ∧ R.rel w F l[k] a ∧ ∀ j u, a[j]? = some u → w.cell? ⟨b, off + k * R.n + j, none⟩ = some u := by
  obtain ⟨A', c', e, h1, h2, h3⟩ := h
  injection e with e1 e2 e3
  subst e1
  obtain ⟨b, off, cs, ea, hb, hl, hc⟩ := h3 (by omega)
  refine ⟨b, off, _, ea, hb, hl.2 k _ (List.getElem?_eq_getElem hk), fun j u hj => ?_⟩
  rw [List.getElem?_take] at hj
  split at hj
  · rw [List.getElem?_drop] at hj
    rw [Nat.add_assoc]; exact hc _ u hj
  · cases hj
theorem Sli.take_ {A : Option Addr} {n c : Nat} (h : Sli R w F l (.slice A n c)) (k : Nat) (hk : k ≤ l.length) : Sli R w F (l.take k) (.slice A k c) := by
  obtain ⟨A', c', e, h1, h2, h3⟩ := h
  injection e with e1 e2 e3
  subst e1; subst e3
  refine ⟨A, c, by rw [List.length_take, Nat.min_eq_left hk], by simp; omega, h2, fun h0 => ?_⟩
  obtain ⟨b, off, cs, ea, hb, hl, hc⟩ := h3 (by simp at h0; omega)
  refine ⟨b, off, _, ea, hb, hl.take k, fun j u hj => hc j u ?_⟩
  rw [List.getElem?_take] at hj
  split at hj
  · exact hj
  · cases hj
theorem Sli.drop_ {b off n c : Nat} (h : Sli R w F l (.slice (some ⟨b, off, none⟩) n c)) (k : Nat) (hk : k ≤ l.length) (n' c' : Nat) (hn : n' = l.length - k) (hc' : c' = c - k) : Sli R w F (l.drop k) (.slice (some ⟨b, off + k * R.n, none⟩) n' c') := by
  obtain ⟨A', c2, e, h1, h2, h3⟩ := h
  injection e with e1 e2 e3
  subst e1; subst e3; subst hn; subst hc'
  refine ⟨_, _, by rw [List.length_drop], by simp; omega, by omega, fun h0 => ?_⟩
  obtain ⟨b2, off2, cs, ea, hb, hl, hc⟩ := h3 (by simp at h0; omega)
  injection ea with ea
  injection ea with e1 e2
  subst e1; subst e2
  refine ⟨b, _, _, rfl, hb, hl.drop k, fun j u hj => ?_⟩
  rw [List.getElem?_drop] at hj
  rw [Nat.add_assoc]; exact hc _ u hj
/-- A slice that a call of one's own has filled. -/
theorem Sli.own {base e n : Nat} {xs : List Value} (h : w.ownsRow base e R.n v n xs) (hl : Lay R w F l xs) (hn : n = l.length) (hc : ∀ b c, v = .slice (some ⟨b, 0, none⟩) n c → F b) : Sli R w F l v := by
  subst hn
  rcases h.2 with ⟨rfl, h0⟩ | ⟨g, cap, cur, rfl, hb, hg, h1, h2, h3, h4⟩
  · obtain rfl : l = [] := List.length_eq_zero_iff.1 h0
    exact Sli.nil_
  · have hf := hc g cap rfl
    refine ⟨_, cap, rfl, h1, by unfold maxLen at h2; omega, fun _ => ⟨g, 0, xs, rfl, hf, hl, fun j u hj => ?_⟩⟩
    rw [Nat.zero_add]
    simp only [World.cell?, hg]
    rw [← h4] at hj
    rw [List.getElem?_take] at hj
    split at hj
    · simpa using hj
    · cases hj
/-- A row that has just been laid. -/
theorem Sli.new {cs : List Value} (T : TypeId) (c : Nat) (hl : Lay R (w.alloc (.cells cs.toArray T)) F l cs) (hF : F w.heap.size) (h1 : l.length ≤ c) (h2 : c ≤ 9223372036854775807) : Sli R (w.alloc (.cells cs.toArray T)) F l (.slice (some ⟨w.heap.size, 0, none⟩) l.length c) := by
  refine ⟨_, c, rfl, h1, h2, fun _ => ⟨_, 0, cs, rfl, hF, hl, fun j u hj => ?_⟩⟩
  rw [Nat.zero_add]
  have hg : (w.alloc (.cells cs.toArray T)).heap[w.heap.size]? = some (.cells cs.toArray T (0, 0)) := heap_alloc_new w _
  simp only [World.cell?, hg]
  simpa using hj
end

/-- Slices as elements. -/
def Rep.sli {α : Type} (R : Rep α) : Rep (List α) :=
  ⟨1, fun w F l cs => ∃ v, cs = [v] ∧ Sli R w F l v, fun h => by obtain ⟨v, rfl, _⟩ := h; rfl, fun h hk => by obtain ⟨v, e, h⟩ := h; exact ⟨v, e, h.keep hk⟩, fun h hk => by obtain ⟨v, e, h⟩ := h; exact ⟨v, e, h.more hk⟩⟩
end Go.Proofs.YtkhegeobdcemkaaGreatDoor

/- Files, manifests and copies, in plain words. No program in sight. -/
namespace Go.Proofs.YtkhegeobdcemkaaGreatDoor
set_option linter.unusedVariables false
open Go.RowKit

structure Copied where
  name : ByteArray
  size : Int
  sum : ByteArray
theorem Copied.ext_iff' {a b : Copied} : a = b ↔ a.name = b.name ∧ a.size = b.size ∧ a.sum = b.sum := by
  constructor
  · rintro rfl; exact ⟨rfl, rfl, rfl⟩
  · rintro ⟨h1, h2, h3⟩; cases a; cases b; simp at h1 h2 h3; subst h1; subst h2; subst h3; rfl
def Copied.cells (x : Copied) : List Value := [.string x.name, .int .i64 x.size, .string x.sum]
def Copied.val (x : Copied) : Value := .agg #[.string x.name, .int .i64 x.size, .string x.sum]
def copR : Rep Copied := Rep.flat 3 Copied.cells (fun _ => rfl)
def Copied.eqB (a b : Copied) : Bool := decide (a.name = b.name) && decide (a.size = b.size) && decide (a.sum = b.sum)
theorem Copied.eqB_iff {a b : Copied} : a.eqB b = true ↔ a = b := by rw [Copied.ext_iff']; simp [Copied.eqB, and_assoc]

def fileC (c : UInt8) : Bool := (decide (97 ≤ c.toNat) && decide (c.toNat ≤ 122)) || (decide (48 ≤ c.toNat) && decide (c.toNat ≤ 57)) || decide (c.toNat = 46) || decide (c.toNat = 95) || decide (c.toNat = 45)
def fileB (s : ByteArray) : Bool := decide (1 ≤ s.size ∧ s.size ≤ 40) && allB fileC s
def hexC (c : UInt8) : Bool := (decide (48 ≤ c.toNat) && decide (c.toNat ≤ 57)) || (decide (97 ≤ c.toNat) && decide (c.toNat ≤ 102))
/-- The error of a name behind others. -/
def nameF (pre : List ByteArray) (s : ByteArray) : Int := if fileB s = false then 5 else if (pre.any fun y => decide (y = s)) = true then 6 else 0
def namesFrom : List ByteArray → List ByteArray → Int
  | _, [] => 0
  | pre, s :: rest => if nameF pre s = 0 then namesFrom (pre ++ [s]) rest else nameF pre s
def namesF (l : List ByteArray) : Int := namesFrom [] l
theorem namesFrom_step (l : List ByteArray) (k : Nat) (hk : k < l.length) :
    namesFrom (l.take k) (l.drop k) = if nameF (l.take k) l[k] = 0 then namesFrom (l.take (k + 1)) (l.drop (k + 1)) else nameF (l.take k) l[k] := by
  rw [List.drop_eq_getElem_cons hk, namesFrom, List.take_succ_eq_append_getElem hk]
theorem namesFrom_end (l : List ByteArray) (k : Nat) (hk : l.length ≤ k) : namesFrom (l.take k) (l.drop k) = 0 := by
  rw [List.drop_eq_nil_of_le hk, namesFrom]
/-- One name more. -/
theorem namesFrom_snoc (l : List ByteArray) (x : ByteArray) : ∀ pre, namesFrom pre l = 0 → namesFrom pre (l ++ [x]) = nameF (pre ++ l) x := by
  induction l with
  | nil => intro pre _; simp [namesFrom]; intro h; rw [h]
  | cons y l ih =>
    intro pre h
    rw [namesFrom] at h
    by_cases hy : nameF pre y = 0
    · rw [if_pos hy] at h
      rw [List.cons_append, namesFrom, if_pos hy, ih _ h, List.append_assoc]; rfl
    · rw [if_neg hy] at h; exact absurd h hy
def manE (names data : List ByteArray) : Int := if names.length ≠ data.length then 3 else if 500 < names.length then 2 else namesF names
def manAll (names data : List ByteArray) : List Copied := (names.zip data).map fun x => ⟨x.1, x.2.size, digestB x.2⟩
def manL (names data : List ByteArray) : List Copied := if manE names data = 0 then manAll names data else []
/-- The error of a copy behind others. -/
def copyF (pre : List ByteArray) (c : Copied) : Int := if nameF pre c.name ≠ 0 then nameF pre c.name else if c.size < 0 then 1 else if c.sum.size ≠ 16 then 3 else if allB hexC c.sum = false then 3 else 0
def copiesFrom : List ByteArray → List Copied → Int
  | _, [] => 0
  | pre, c :: rest => if copyF pre c = 0 then copiesFrom (pre ++ [c.name]) rest else copyF pre c
def copiesF (l : List Copied) : Int := copiesFrom [] l
theorem copiesFrom_step (l : List Copied) (k : Nat) (hk : k < l.length) :
    copiesFrom ((l.take k).map (·.name)) (l.drop k) = if copyF ((l.take k).map (·.name)) l[k] = 0 then copiesFrom ((l.take (k + 1)).map (·.name)) (l.drop (k + 1)) else copyF ((l.take k).map (·.name)) l[k] := by
  rw [List.drop_eq_getElem_cons hk, copiesFrom, List.take_succ_eq_append_getElem hk, List.map_append]; rfl
theorem copiesFrom_end (l : List Copied) (k : Nat) (pre : List ByteArray) (hk : l.length ≤ k) : copiesFrom pre (l.drop k) = 0 := by
  rw [List.drop_eq_nil_of_le hk, copiesFrom]
def hasName (l : List Copied) (s : ByteArray) : Bool := l.any fun y => decide (y.name = s)
def copyAt (l : List Copied) (s : ByteArray) : Option Copied := l.find? fun y => decide (y.name = s)
def lostL (a b : List Copied) : List ByteArray := (a.filter fun x => !hasName b x.name).map (·.name)
def spoiltB (b : List Copied) (x : Copied) : Bool := match copyAt b x.name with
  | some y => !y.eqB x
  | none => false
def spoiltL (a b : List Copied) : List ByteArray := (a.filter (spoiltB b)).map (·.name)
def cmpE (a b : List Copied) : Int := if 500 < a.length ∨ 500 < b.length then 2 else if copiesF a ≠ 0 then copiesF a else copiesF b
end Go.Proofs.YtkhegeobdcemkaaGreatDoor

/- Slices that a call of one's own fills by append, with elements that may hold slices of their own. -/
namespace Go.Proofs.YtkhegeobdcemkaaGreatDoor
set_option linter.unusedVariables false
open Go.RowKit

/-- What lies from block lo on, but for one block. -/
def From (w : World) (lo : Nat) (own : Option Nat) (b : Nat) : Prop := lo ≤ b ∧ b < w.heap.size ∧ some b ≠ own
/-- The value v owns the elements l, in a row from block base on; what they hold lies from block lo on, apart from that row. -/
def Own {α : Type} (R : Rep α) (w : World) (base lo : Nat) (e : TypeId) (l : List α) (v : Value) : Prop :=
  ∃ xs, w.ownsRow base e R.n v l.length xs ∧ Lay R w (From w lo v.ownBlock) l xs

section
variable {α : Type} {R : Rep α} {w w' w1 : World} {base lo : Nat} {e : TypeId} {l : List α} {v : Value}
theorem Own.nil_ : Own R w base lo e [] (.slice none 0 0) := ⟨[], World.ownsRow_nil w base e R.n, Lay.nil_⟩
theorem Own.form (h : Own R w base lo e l v) : (v = .slice none 0 0 ∧ l = []) ∨ ∃ g cap, v = .slice (some ⟨g, 0, none⟩) l.length cap ∧ base ≤ g ∧ g < w.heap.size ∧ l.length ≤ cap ∧ cap ≤ 9223372036854775807 := by
  obtain ⟨xs, ho, _⟩ := h
  rcases ho.2 with ⟨hv, h0⟩ | ⟨g, cap, cur, hv, hb, hg, hc, hm, _⟩
  · exact .inl ⟨hv, List.length_eq_zero_iff.1 h0⟩
  · exact .inr ⟨g, cap, hv, hb, heap_lt' hg, hc, by unfold maxLen at hm; omega⟩
where heap_lt' {w : World} {b : Nat} {o : Obj} (h : w.heap[b]? = some o) : b < w.heap.size := (Array.getElem?_eq_some_iff.1 h).1
theorem Own.block (h : Own R w base lo e l v) (g : Nat) (hg : v.ownBlock = some g) : base ≤ g ∧ g < w.heap.size := by
  obtain ⟨xs, ho, _⟩ := h
  exact ho.lt g hg
/-- It stays what it is where its row and what its elements hold stay. -/
theorem Own.keep (h : Own R w base lo e l v) (hs : w.heap.size ≤ w'.heap.size) (hk : ∀ b, (lo ≤ b ∨ v.ownBlock = some b) → b < w.heap.size → w'.heap[b]? = w.heap[b]?) : Own R w' base lo e l v := by
  obtain ⟨xs, ho, hl⟩ := h
  refine ⟨xs, ⟨ho.1, ?_⟩, (hl.keep fun b hb => hk b (.inl hb.1) hb.2.1).more fun b hb => ⟨hb.1, Nat.lt_of_lt_of_le hb.2.1 hs, hb.2.2⟩⟩
  rcases ho.2 with hn | ⟨g, cap, cur, rfl, hb, hg, rest⟩
  · exact .inl hn
  · exact .inr ⟨g, cap, cur, rfl, hb, by rw [hk g (.inr rfl) (Array.getElem?_eq_some_iff.1 hg).1]; exact hg, rest⟩
theorem Own.alloc (h : Own R w base lo e l v) (o : Obj) : Own R (w.alloc o) base lo e l v := h.keep (by simp) fun b _ hb => Below.heap_alloc w o b hb
theorem Own.drew (h : Own R w base lo e l v) : Own R w.drew base lo e l v := h.keep (Nat.le_refl _) fun _ _ _ => rfl
theorem Own.drewN (h : Own R w base lo e l v) (n : Nat) : Own R (w.drewN n) base lo e l v := h.keep (Nat.le_refl _) fun _ _ _ => rfl
theorem Own.below (h : Own R w base lo e l v) (hb : Below w.heap.size w w') : Own R w' base lo e l v := h.keep hb.size fun b _ hlt => hb.block b hlt
theorem Own.setCell (h : Own R w base lo e l v) {p : Addr} (u : Value) (h1 : p.block < lo) (h2 : v.ownBlock ≠ some p.block) : Own R (w.setCell p u) base lo e l v :=
  h.keep (by simp [World.setCell]) fun b hb _ => Below.heap_setCell w p u b (fun e => by
    subst e
    rcases hb with hb | hb
    · omega
    · exact h2 hb)
/-- Another row grows, or a stream turns. -/
theorem Own.grown {row : Option Nat} (h : Own R w base lo e l v) (hg : w.grownBy w' row) (h1 : ∀ k, row = some k → k < lo) (h2 : v.ownBlock = none ∨ v.ownBlock ≠ row) : Own R w' base lo e l v :=
  h.keep hg.size fun b hb hlt => hg.block b hlt (fun er => by
    rcases hb with hb | hb
    · have := h1 b er.symm; omega
    · rcases h2 with h2 | h2
      · rw [h2] at hb; cases hb
      · exact h2 (by rw [hb, er]))
/-- What it reads as. -/
theorem Own.sli {F : Nat → Prop} (h : Own R w base lo e l v) (hF : ∀ b, lo ≤ b → b < w.heap.size → F b) (hB : ∀ g, v.ownBlock = some g → F g) : Sli R w F l v := by
  obtain ⟨xs, ho, hl⟩ := h
  exact Sli.own ho (hl.more fun b hb => hF b hb.1 hb.2.1) rfl (fun b c hv => hB b (by rw [hv]; rfl))
/-- One element more has been appended. -/
theorem Own.push {row : List Value} {xs cs : List Value} {v' : Value} {g H : Nat} (hl : Lay R w (From w lo v.ownBlock) l xs) {y : α} (hy : R.rel w (From w lo v.ownBlock) y cs)
    (ho : w1.ownsRow base e R.n v' (l.length + 1) (xs ++ cs)) (hg : w.grownBy w1 v.ownBlock) (hv' : v'.ownBlock = some g) (hat : v.ownBlock = some g ∨ (g = H ∧ w.heap.size ≤ H)) : Own R w1 base lo e (l ++ [y]) v' := by
  have hF : ∀ b, From w lo v.ownBlock b → From w1 lo v'.ownBlock b := fun b hb => ⟨hb.1, Nat.lt_of_lt_of_le hb.2.1 hg.size, by
    rw [hv']
    rcases hat with h | ⟨h, h2⟩
    · rw [← h]; exact hb.2.2
    · intro e; injection e with e; have := hb.2.1; omega⟩
  have hk : ∀ b, From w lo v.ownBlock b → w1.heap[b]? = w.heap[b]? := fun b hb => hg.block b hb.2.1 hb.2.2
  exact ⟨_, by simpa using ho, ((hl.snoc hy).keep hk).more hF⟩
end
theorem gbTrans {w a b : World} {row : Option Nat} (h : w.grownBy a row) (g : a.grownBy b row) : w.grownBy b row :=
  ⟨g.os.trans h.os, g.tape.trans h.tape, g.output.trans h.output, Nat.le_trans h.size g.size, fun i hi hne => (g.block i (Nat.lt_of_lt_of_le hi h.size) hne).trans (h.block i hi hne)⟩
theorem oneC {cs : List Value} (h : cs.all (fun u => match u with | .agg _ | .tuple _ => false | _ => true) = true) : ∀ u ∈ cs, u.oneCell' = true := by
  intro u hu
  have := List.all_eq_true.1 h u hu
  cases u <;> first | rfl | cases this

/-- 'append(out, y)' at the operation: y has just been laid in a block of its own. -/
theorem wpList_push {P : Program} {α : Type} {R : Rep α} {ops : Array Oper} {rest : List Oper} {o : Oper} {a : Act} {Q : Exit → Act → World → Prop} (hgd : o.guard = none) (s x : Operand) (t : TypeId)
    (ho : o.op = .call { callee := .builtin .append, args := #[s, x], argTypes := #[t, t] })
    (base lo : Nat) (e : TypeId) (i : TypeInfo) (z : Value) (bytes : Nat) (ht : P.underlying t = some (.slice e)) (hi : P.info? e = some i) (hz : i.zero = some z)
    (hsize : i.size = R.n) (hby : i.bytes = bytes) (hzs : z.cells.size = R.n) (hsz : 0 < R.n)
    (w : World) (v : Value) (l : List α) (hs : a.eval s = v) (hown : Own R w base lo e l v) (y : α) (cs : List Value) (hy : R.rel w (From w lo v.ownBlock) y cs) (h1 : ∀ u ∈ cs, u.oneCell' = true)
    (T : TypeId) (c : Nat) (ca : Array Value) (hca : ca = cs.toArray) (hx : a.eval x = .slice (some ⟨w.heap.size, 0, none⟩) 1 c) (h63 : l.length + 1 ≤ maxLen) (hbytes : (l.length + 1) * bytes ≤ 140737488355328) (hbase : base ≤ w.heap.size)
    (h : ∀ g cap w', Own R w' base lo e (l ++ [y]) (.slice (some ⟨g, 0, none⟩) (l.length + 1) cap) → w.grownBy w' v.ownBlock → (v.ownBlock = some g ∨ g = w.heap.size + 1) → g < w'.heap.size → w.heap.size < w'.heap.size → wpList P ops Q rest (a.put o.dst (.slice (some ⟨g, 0, none⟩) (l.length + 1) cap)) w') :
    wpList P ops Q (o :: rest) a (w.alloc (.cells ca T)) := by
  subst hca
  obtain ⟨xs, hor, hl⟩ := hown
  have hn := R.len hy
  refine wpList_append_lies (w.alloc (.cells cs.toArray T)) hgd s x t ho base e i z R.n bytes ht hi hz hsize hby hzs hsz v l.length xs hs (hor.alloc _) ⟨w.heap.size, 0, none⟩ 1 c cs hx (by rw [hn, Nat.one_mul]) ?_ h1 (by omega) h63 hbytes (by simp; omega) (w.heap.size + 1) (by simp) ?_
  · intro j u hj
    exact World.news_of_block (heap_alloc_new w (.cells cs.toArray T)) j u (by simpa using hj)
  · intro g cap w' h2 h3 h4 h5
    have hg : w.grownBy w' v.ownBlock := gbTrans (World.grownBy_alloc w _ _) h3
    refine h g cap w' (Own.push (row := xs) (g := g) (H := w.heap.size + 1) hl hy h2 hg rfl (h4.imp id fun h => ⟨h, by omega⟩)) hg h4 h5 (by have := h3.size; simp at this; omega)
end Go.Proofs.YtkhegeobdcemkaaGreatDoor

/- Append of one element that lies in a block of its own. No program in sight. -/
namespace Go.Proofs.YtkhegeobdcemkaaGreatDoor
set_option linter.unusedVariables false
open Go.RowKit

/-- 'append(out, y)' at a step of a region that draws its order: y lies in a block of its own. -/
theorem step_push {P : Program} {α : Type} {R : Rep α} {ops : Array Oper} {o : Oper} {a : Act} {K : Act → World → Prop} {Q : Exit → Act → World → Prop} {E : Prop} (hgd : o.guard = none) (s x : Operand) (t : TypeId)
    (ho : o.op = .call { callee := .builtin .append, args := #[s, x], argTypes := #[t, t] })
    (base lo : Nat) (e : TypeId) (i : TypeInfo) (z : Value) (bytes : Nat) (ht : P.underlying t = some (.slice e)) (hi : P.info? e = some i) (hz : i.zero = some z)
    (hsize : i.size = R.n) (hby : i.bytes = bytes) (hzs : z.cells.size = R.n) (hsz : 0 < R.n)
    (W : World) (v : Value) (l : List α) (hs : a.eval s = v) (hown : Own R W base lo e l v) (y : α) (cs : List Value) (hy : R.rel W (From W lo v.ownBlock) y cs) (h1 : ∀ u ∈ cs, u.oneCell' = true)
    (B : Nat) (T : TypeId) (c : Nat) (hB : W.heap[B]? = some (.cells cs.toArray T (0, 0))) (hx : a.eval x = .slice (some ⟨B, 0, none⟩) 1 c) (h63 : l.length + 1 ≤ maxLen) (hbytes : (l.length + 1) * bytes ≤ 140737488355328) (hbase : base ≤ W.heap.size)
    (h : ∀ g cap w', Own R w' base lo e (l ++ [y]) (.slice (some ⟨g, 0, none⟩) (l.length + 1) cap) → W.grownBy w' v.ownBlock → (v.ownBlock = some g ∨ g = W.heap.size) → g < w'.heap.size → K (a.put o.dst (.slice (some ⟨g, 0, none⟩) (l.length + 1) cap)) w') :
    if Region.wanted o (yielded ops a.tmps) = true then Oper.wp P o a W K Q else E := by
  obtain ⟨xs, hor, hl⟩ := hown
  have hn := R.len hy
  refine step_append_lies W hgd s x t ho base e i z R.n bytes ht hi hz hsize hby hzs hsz v l.length xs hs hor ⟨B, 0, none⟩ 1 c cs hx (by rw [hn, Nat.one_mul]) ?_ h1 (by omega) h63 hbytes hbase W.heap.size rfl ?_
  · intro j u hj
    exact World.news_of_block hB j u (by simpa using hj)
  · intro g cap w' h2 h3 h4 h5
    exact h g cap w' (Own.push (row := xs) (g := g) (H := W.heap.size) hl hy h2 h3 rfl (h4.imp id fun h => ⟨h, Nat.le_refl _⟩)) h3 h4 h5

/-- 'append(out, y)' at the operation: y lies in a block of its own. -/
theorem wpList_pushB {P : Program} {α : Type} {R : Rep α} {ops : Array Oper} {rest : List Oper} {o : Oper} {a : Act} {Q : Exit → Act → World → Prop} (hgd : o.guard = none) (s x : Operand) (t : TypeId)
    (ho : o.op = .call { callee := .builtin .append, args := #[s, x], argTypes := #[t, t] })
    (base lo : Nat) (e : TypeId) (i : TypeInfo) (z : Value) (bytes : Nat) (ht : P.underlying t = some (.slice e)) (hi : P.info? e = some i) (hz : i.zero = some z)
    (hsize : i.size = R.n) (hby : i.bytes = bytes) (hzs : z.cells.size = R.n) (hsz : 0 < R.n)
    (W : World) (v : Value) (l : List α) (hs : a.eval s = v) (hown : Own R W base lo e l v) (y : α) (cs : List Value) (hy : R.rel W (From W lo v.ownBlock) y cs) (h1 : ∀ u ∈ cs, u.oneCell' = true)
    (B : Nat) (T : TypeId) (c : Nat) (hB : W.heap[B]? = some (.cells cs.toArray T (0, 0))) (hx : a.eval x = .slice (some ⟨B, 0, none⟩) 1 c) (h63 : l.length + 1 ≤ maxLen) (hbytes : (l.length + 1) * bytes ≤ 140737488355328) (hbase : base ≤ W.heap.size)
    (h : ∀ g cap w', Own R w' base lo e (l ++ [y]) (.slice (some ⟨g, 0, none⟩) (l.length + 1) cap) → W.grownBy w' v.ownBlock → (v.ownBlock = some g ∨ g = W.heap.size) → g < w'.heap.size → wpList P ops Q rest (a.put o.dst (.slice (some ⟨g, 0, none⟩) (l.length + 1) cap)) w') :
    wpList P ops Q (o :: rest) a W := by
  obtain ⟨xs, hor, hl⟩ := hown
  have hn := R.len hy
  refine wpList_append_lies W hgd s x t ho base e i z R.n bytes ht hi hz hsize hby hzs hsz v l.length xs hs hor ⟨B, 0, none⟩ 1 c cs hx (by rw [hn, Nat.one_mul]) ?_ h1 (by omega) h63 hbytes hbase W.heap.size rfl ?_
  · intro j u hj
    exact World.news_of_block hB j u (by simpa using hj)
  · intro g cap w' h2 h3 h4 h5
    exact h g cap w' (Own.push (row := xs) (g := g) (H := W.heap.size) hl hy h2 h3 rfl (h4.imp id fun h => ⟨h, Nat.le_refl _⟩)) h3 h4 h5

end Go.Proofs.YtkhegeobdcemkaaGreatDoor

/- Three slices of strings that one call fills side by side. -/
namespace Go.Proofs.YtkhegeobdcemkaaGreatDoor
set_option linter.unusedVariables false
open Go.RowKit

theorem Own.strKeep {w w' : World} {base lo : Nat} {e : TypeId} {l : List ByteArray} {v : Value} (h : Own strR w base lo e l v) (hk : ∀ g, v.ownBlock = some g → g < w.heap.size → w'.heap[g]? = w.heap[g]?) : Own strR w' base lo e l v := by
  obtain ⟨xs, ho, hl⟩ := h
  refine ⟨xs, ⟨ho.1, ?_⟩, ⟨hl.1, fun k x hx => hl.2 k x hx⟩⟩
  rcases ho.2 with hn | ⟨g, cap, cur, rfl, hb, hg, rest⟩
  · exact .inl hn
  · exact .inr ⟨g, cap, cur, rfl, hb, by rw [hk g rfl (Array.getElem?_eq_some_iff.1 hg).1]; exact hg, rest⟩
def Dis (v v' : Value) : Prop := ∀ g, v.ownBlock = some g → v'.ownBlock = some g → False
theorem Dis.symm {v v' : Value} (h : Dis v v') : Dis v' v := fun g a b => h g b a
theorem Dis.nil_ {v : Value} : Dis v (.slice none 0 0) := fun g _ b => by cases b
def Rows3 (w : World) (base : Nat) (l1 l2 l3 : List ByteArray) (v1 v2 v3 : Value) : Prop :=
  Own strR w base base 9 l1 v1 ∧ Own strR w base base 9 l2 v2 ∧ Own strR w base base 9 l3 v3 ∧ Dis v1 v2 ∧ Dis v1 v3 ∧ Dis v2 v3
section
variable {w w' : World} {base : Nat} {l1 l2 l3 : List ByteArray} {v1 v2 v3 : Value}
theorem Rows3.nil_ : Rows3 w base [] [] [] (.slice none 0 0) (.slice none 0 0) (.slice none 0 0) := ⟨Own.nil_, Own.nil_, Own.nil_, Dis.nil_, Dis.nil_, Dis.nil_⟩
theorem Rows3.below (h : Rows3 w base l1 l2 l3 v1 v2 v3) (hb : Below w.heap.size w w') : Rows3 w' base l1 l2 l3 v1 v2 v3 := ⟨h.1.below hb, h.2.1.below hb, h.2.2.1.below hb, h.2.2.2⟩
theorem Rows3.alloc (h : Rows3 w base l1 l2 l3 v1 v2 v3) (o : Obj) : Rows3 (w.alloc o) base l1 l2 l3 v1 v2 v3 := ⟨h.1.alloc o, h.2.1.alloc o, h.2.2.1.alloc o, h.2.2.2⟩
theorem Rows3.drew (h : Rows3 w base l1 l2 l3 v1 v2 v3) : Rows3 w.drew base l1 l2 l3 v1 v2 v3 := ⟨h.1.drew, h.2.1.drew, h.2.2.1.drew, h.2.2.2⟩
theorem Rows3.drewN (h : Rows3 w base l1 l2 l3 v1 v2 v3) (n : Nat) : Rows3 (w.drewN n) base l1 l2 l3 v1 v2 v3 := ⟨h.1.drewN n, h.2.1.drewN n, h.2.2.1.drewN n, h.2.2.2⟩
theorem Rows3.s12 (h : Rows3 w base l1 l2 l3 v1 v2 v3) : Rows3 w base l2 l1 l3 v2 v1 v3 := ⟨h.2.1, h.1, h.2.2.1, h.2.2.2.1.symm, h.2.2.2.2.2, h.2.2.2.2.1⟩
theorem Rows3.s13 (h : Rows3 w base l1 l2 l3 v1 v2 v3) : Rows3 w base l3 l2 l1 v3 v2 v1 := ⟨h.2.2.1, h.2.1, h.1, h.2.2.2.2.2.symm, h.2.2.2.2.1.symm, h.2.2.2.1.symm⟩
theorem Rows3.push {l1' : List ByteArray} {v1' : Value} {g : Nat} (h : Rows3 w base l1 l2 l3 v1 v2 v3) (ho : Own strR w' base base 9 l1' v1') (hg : w.grownBy w' v1.ownBlock) (hv : v1'.ownBlock = some g) (hat : v1.ownBlock = some g ∨ g = w.heap.size) : Rows3 w' base l1' l2 l3 v1' v2 v3 := by
  have hd : ∀ v l, Own strR w base base 9 l v → Dis v1 v → Dis v1' v := by
    intro v l hl hd g' h1 h2
    have e : g = g' := by rw [hv] at h1; injection h1
    subst e
    rcases hat with hat | hat
    · exact hd g hat h2
    · have := (hl.block g h2).2; omega
  refine ⟨ho, h.2.1.strKeep fun g' e hlt => hg.block g' hlt fun e2 => h.2.2.2.1 g' e2.symm e, h.2.2.1.strKeep fun g' e hlt => hg.block g' hlt fun e2 => h.2.2.2.2.1 g' e2.symm e, hd _ _ h.2.1 h.2.2.2.1, hd _ _ h.2.2.1 h.2.2.2.2.1, h.2.2.2.2.2⟩
end
end Go.Proofs.YtkhegeobdcemkaaGreatDoor

/- Append of several numbers at once onto a list of one's own. No program in sight. -/
namespace Go.Proofs.YtkhegeobdcemkaaGreatDoor
set_option linter.unusedVariables false
open Go.RowKit

theorem lay_ints {w : World} {F : Nat → Prop} : ∀ (zs l : List Int) (xs : List Value), Lay intR w F l xs → Lay intR w F (l ++ zs) (xs ++ zs.map (Value.int .i64)) := by
  intro zs
  induction zs with
  | nil => intro l xs h; simpa using h
  | cons z r ih =>
    intro l xs h
    have h2 := ih (l ++ [z]) (xs ++ [.int .i64 z]) (h.snoc (show intR.rel w F z [.int .i64 z] from rfl))
    simpa using h2
/-- 'append(out, a, b, ..)' at the operation: the numbers lie in a block of their own. -/
theorem wpList_pushI {P : Program} {ops : Array Oper} {rest : List Oper} {o : Oper} {a : Act} {Q : Exit → Act → World → Prop} (hgd : o.guard = none) (s x : Operand) (t : TypeId)
    (ho : o.op = .call { callee := .builtin .append, args := #[s, x], argTypes := #[t, t] })
    (base lo : Nat) (e : TypeId) (i : TypeInfo) (z : Value) (bytes : Nat) (ht : P.underlying t = some (.slice e)) (hi : P.info? e = some i) (hz : i.zero = some z)
    (hsize : i.size = 1) (hby : i.bytes = bytes) (hzs : z.cells.size = 1)
    (W : World) (v : Value) (l : List Int) (hs : a.eval s = v) (hown : Own intR W base lo e l v) (zs : List Int) (h0 : 0 < zs.length)
    (B : Nat) (T : TypeId) (c : Nat) (hB : W.heap[B]? = some (.cells (zs.map (Value.int .i64)).toArray T (0, 0))) (hx : a.eval x = .slice (some ⟨B, 0, none⟩) zs.length c) (h63 : l.length + zs.length ≤ maxLen) (hbytes : (l.length + zs.length) * bytes ≤ 140737488355328) (hbase : base ≤ W.heap.size)
    (h : ∀ g cap w', Own intR w' base lo e (l ++ zs) (.slice (some ⟨g, 0, none⟩) (l.length + zs.length) cap) → W.grownBy w' v.ownBlock → (v.ownBlock = some g ∨ g = W.heap.size) → g < w'.heap.size → wpList P ops Q rest (a.put o.dst (.slice (some ⟨g, 0, none⟩) (l.length + zs.length) cap)) w') :
    wpList P ops Q (o :: rest) a W := by
  obtain ⟨xs, hor, hl⟩ := hown
  have hor1 : W.ownsRow base e 1 v l.length xs := hor
  refine wpList_append_lies W hgd s x t ho base e i z 1 bytes ht hi hz hsize hby hzs (by omega) v l.length xs hs hor1 ⟨B, 0, none⟩ zs.length c (zs.map (Value.int .i64)) hx (by simp) ?_ (fun u hu => ?_) h0 h63 hbytes hbase W.heap.size rfl ?_
  · intro j u hj
    exact World.news_of_block hB j u (by simpa using hj)
  · obtain ⟨y, _, rfl⟩ := List.mem_map.1 hu
    rfl
  · intro g cap w' h2 h3 h4 h5
    refine h g cap w' ⟨xs ++ zs.map (Value.int .i64), by rw [List.length_append]; exact h2, ?_⟩ h3 h4 h5
    have hF : ∀ b, From W lo v.ownBlock b → From w' lo (some g) b := fun b hb => ⟨hb.1, Nat.lt_of_lt_of_le hb.2.1 h3.size, by
      rcases h4 with h | h
      · rw [← h]; exact hb.2.2
      · intro e; injection e with e; have := hb.2.1; omega⟩
    have hk : ∀ b, From W lo v.ownBlock b → w'.heap[b]? = W.heap[b]? := fun b hb => h3.block b hb.2.1 hb.2.2
    exact ((lay_ints zs l xs hl).keep hk).more hF
end Go.Proofs.YtkhegeobdcemkaaGreatDoor

/- Rolls, rates and frames in plain words: what the program and the reference both compute. No program in sight. -/
namespace Go.Proofs.YtkhegeobdcemkaaGreatDoor
set_option linter.unusedVariables false
open Go.RowKit

/-- A number with two digits. -/
def twoS (n : Int) : ByteArray := ⟨#[UInt8.ofNat (wrap64 (48 + wrap64 (n.tdiv 10)) % 256).toNat, UInt8.ofNat (wrap64 (48 + n.tmod 10) % 256).toNat]⟩
theorem twoS_eq {n : Int} (h0 : 0 ≤ n) (h1 : n < 100) : twoS n = ⟨#[UInt8.ofNat (48 + n / 10).toNat, UInt8.ofNat (48 + n % 10).toNat]⟩ := by
  unfold twoS
  rw [Int.tdiv_eq_ediv_of_nonneg h0, Int.tmod_eq_emod_of_nonneg h0, IntWalk.wrap64_in (n / 10) (by omega), IntWalk.wrap64_in (48 + n / 10) (by omega), IntWalk.wrap64_in (48 + n % 10) (by omega)]
  rw [Int.emod_eq_of_lt (by omega) (by omega), Int.emod_eq_of_lt (by omega) (by omega)]

structure Roll where
  name : ByteArray
  rate : Int
  start : Int
  long : Int
  drift : Int

def Roll.cells (r : Roll) : List Value := [.string r.name, .int .i64 r.rate, .int .i64 r.start, .int .i64 r.long, .int .i64 r.drift]
def Roll.val (r : Roll) : Value := .agg #[.string r.name, .int .i64 r.rate, .int .i64 r.start, .int .i64 r.long, .int .i64 r.drift]
def Roll.zero : Roll := ⟨⟨#[]⟩, 0, 0, 0, 0⟩

def isRateB (r : Int) : Bool := decide (1 ≤ r ∧ r ≤ 4)
def countedN (r : Int) : Int := if r = 1 then 24 else if r = 2 then 25 else if r = 3 then 30 else if r = 4 then 30 else 0
def framesN (r : Int) : Int := if r = 1 then 2073600 else if r = 2 then 2160000 else if r = 3 then 2592000 else if r = 4 then 2589408 else 0
def numN (r : Int) : Int := if r = 1 then 24 else if r = 2 then 25 else if r = 3 then 30 else if r = 4 then 30000 else 0
def denN (r : Int) : Int := if r = 4 then 1001 else if r = 1 ∨ r = 2 ∨ r = 3 then 1 else 0
theorem rate_cases {r : Int} (h : isRateB r = true) : r = 1 ∨ r = 2 ∨ r = 3 ∨ r = 4 := by simp [isRateB] at h; omega

/-- The number of the code of a frame, and its text. -/
def adjN (r x : Int) : Int := if r = 4 then x + 18 * (x / 17982) + (if 1800 ≤ x % 17982 then 2 + 2 * ((x % 17982 - 1800) / 1798) else 0) else x
def colonS (r : Int) : ByteArray := if r = 4 then ⟨#[59]⟩ else ⟨#[58]⟩
def fmtS (r s n : Int) : ByteArray := twoS (s / 3600) ++ ⟨#[58]⟩ ++ twoS (s / 60 % 60) ++ ⟨#[58]⟩ ++ twoS (s % 60) ++ colonS r ++ twoS n
def codeS (r x : Int) : ByteArray := fmtS r (adjN r x / countedN r) (adjN r x % countedN r)

def gcdI (a b : Int) : Int := (Nat.gcd a.toNat b.toNat : Nat)
theorem gcdI_step (a b : Int) (ha : 0 ≤ a) (hb : 0 < b) : gcdI b (a % b) = gcdI a b := by
  unfold gcdI
  have h : (a % b).toNat = a.toNat % b.toNat := by
    rw [Int.toNat_emod ha (by omega)]
  rw [h, Nat.gcd_comm b.toNat (a.toNat % b.toNat), ← Nat.gcd_rec, Nat.gcd_comm]
theorem gcdI_zero (a : Int) (ha : 0 ≤ a) : gcdI a 0 = a := by simp [gcdI]; omega

theorem num_bd {r : Int} (h : isRateB r = true) : 24 ≤ numN r ∧ numN r ≤ 30000 ∧ 1 ≤ denN r ∧ denN r ≤ 1001 := by
  rcases rate_cases h with rfl | rfl | rfl | rfl <;> decide
theorem frames_bd {r : Int} (h : isRateB r = true) : 2073600 ≤ framesN r ∧ framesN r ≤ 2592000 := by
  rcases rate_cases h with rfl | rfl | rfl | rfl <;> decide
theorem gcdI_pos (a b : Int) (ha : 1 ≤ a) : 1 ≤ gcdI a b := by
  unfold gcdI
  have := Nat.gcd_pos_of_pos_left (n := b.toNat) (show 0 < a.toNat by omega)
  omega
theorem gcdI_dvd (a b : Int) (ha : 0 ≤ a) (hb : 0 ≤ b) : gcdI a b ∣ a ∧ gcdI a b ∣ b := by
  unfold gcdI
  obtain ⟨x, rfl⟩ := Int.eq_ofNat_of_zero_le ha
  obtain ⟨y, rfl⟩ := Int.eq_ofNat_of_zero_le hb
  exact ⟨Int.natCast_dvd_natCast.2 (by simpa using Nat.gcd_dvd_left x y), Int.natCast_dvd_natCast.2 (by simpa using Nat.gcd_dvd_right x y)⟩

def upDown (f t : Int) : Int × Int :=
  (numN t * denN f / gcdI (numN t * denN f) (denN t * numN f), denN t * numN f / gcdI (numN t * denN f) (denN t * numN f))

theorem mul_bd {a b x y : Int} (ha : 0 ≤ a) (hb : 0 ≤ b) (h1 : a ≤ x) (h2 : b ≤ y) : 0 ≤ a * b ∧ a * b ≤ x * y :=
  ⟨Int.mul_nonneg ha hb, Int.mul_le_mul h1 h2 hb (by omega)⟩
theorem mul_one_le {a b : Int} (ha : 1 ≤ a) (hb : 1 ≤ b) : 1 ≤ a * b := by
  have := Int.mul_le_mul ha hb (by omega) (by omega); omega
/-- The two numbers of a ratio. -/
theorem nd_bd {f t : Int} (hf : isRateB f = true) (ht : isRateB t = true) : 1 ≤ numN t * denN f ∧ numN t * denN f ≤ 30030000 ∧ 1 ≤ denN t * numN f ∧ denN t * numN f ≤ 30030000 := by
  have h1 := num_bd hf
  have h2 := num_bd ht
  have a := mul_bd (a := numN t) (b := denN f) (by omega) (by omega) h2.2.1 h1.2.2.2
  have b := mul_bd (a := denN t) (b := numN f) (by omega) (by omega) h2.2.2.2 h1.2.1
  have c := mul_one_le (a := numN t) (b := denN f) (by omega) (by omega)
  have d := mul_one_le (a := denN t) (b := numN f) (by omega) (by omega)
  omega
theorem div_le {a g : Int} (ha : 0 ≤ a) : a / g ≤ a := Int.ediv_le_self g ha
theorem ud_bd {f t : Int} (hf : isRateB f = true) (ht : isRateB t = true) : 1 ≤ (upDown f t).1 ∧ (upDown f t).1 ≤ 30030000 ∧ 1 ≤ (upDown f t).2 ∧ (upDown f t).2 ≤ 30030000 := by
  have h := nd_bd hf ht
  have hp := gcdI_pos (numN t * denN f) (denN t * numN f) h.1
  obtain ⟨⟨p, hp1⟩, ⟨q, hq1⟩⟩ := gcdI_dvd (numN t * denN f) (denN t * numN f) (by omega) (by omega)
  unfold upDown
  dsimp only
  have e1 : numN t * denN f / gcdI (numN t * denN f) (denN t * numN f) = p := by
    conv => lhs; lhs; rw [hp1]
    exact Int.mul_ediv_cancel_left _ (by omega)
  have e2 : denN t * numN f / gcdI (numN t * denN f) (denN t * numN f) = q := by
    conv => lhs; lhs; rw [hq1]
    exact Int.mul_ediv_cancel_left _ (by omega)
  have l1 := div_le (a := numN t * denN f) (g := gcdI (numN t * denN f) (denN t * numN f)) (by omega)
  have l2 := div_le (a := denN t * numN f) (g := gcdI (numN t * denN f) (denN t * numN f)) (by omega)
  rw [e1] at l1 ⊢
  rw [e2] at l2 ⊢
  refine ⟨?_, by omega, ?_, by omega⟩
  · by_cases hh : 1 ≤ p
    · exact hh
    · exfalso
      have : gcdI (numN t * denN f) (denN t * numN f) * p ≤ 0 := Int.mul_nonpos_of_nonneg_of_nonpos (by omega) (by omega)
      omega
  · by_cases hh : 1 ≤ q
    · exact hh
    · exfalso
      have : gcdI (numN t * denN f) (denN t * numN f) * q ≤ 0 := Int.mul_nonpos_of_nonneg_of_nonpos (by omega) (by omega)
      omega

def convN (x f t : Int) : Int := x * (upDown f t).1 / (upDown f t).2
def convA (x f t : Int) : Int := if framesN t ≤ convN x f t then 0 else convN x f t
def convE (x f t : Int) : Int := if framesN t ≤ convN x f t then 1 else 0

def capDig (c : UInt8) : Bool := (decide (65 ≤ c.toNat) && decide (c.toNat ≤ 90)) || (decide (48 ≤ c.toNat) && decide (c.toNat ≤ 57))
theorem ud_small {f t : Int} (hf : isRateB f = true) (ht : isRateB t = true) : 1 ≤ (upDown f t).1 ∧ (upDown f t).1 ≤ 1250 ∧ 1 ≤ (upDown f t).2 ∧ (upDown f t).2 ≤ 1250 := by
  rcases rate_cases hf with rfl | rfl | rfl | rfl <;> rcases rate_cases ht with rfl | rfl | rfl | rfl <;> decide +kernel

def rollNameB (s : ByteArray) : Bool := decide (1 ≤ s.size ∧ s.size ≤ 8) && allB capDig s
def rollBadB (r : Roll) : Bool := decide (r.start < 0 ∨ framesN r.rate ≤ r.start ∨ r.long < 1 ∨ framesN r.rate - r.start < r.long ∨ r.drift < -1000 ∨ 1000 < r.drift)
/-- The error of a roll behind others. -/
def rollFault (pre : List Roll) (r : Roll) : Int :=
  if rollNameB r.name = false then 5 else if (pre.any fun y => decide (y.name = r.name)) = true then 6 else if isRateB r.rate = false then 4 else if rollBadB r = true then 1 else 0
def rollsFrom : List Roll → List Roll → Int
  | _, [] => 0
  | pre, r :: rest => if rollFault pre r = 0 then rollsFrom (pre ++ [r]) rest else rollFault pre r
def rollsFault (l : List Roll) : Int := if 200 < l.length then 2 else rollsFrom [] l
theorem rollsFrom_step (l : List Roll) (k : Nat) (hk : k < l.length) :
    rollsFrom (l.take k) (l.drop k) = if rollFault (l.take k) l[k] = 0 then rollsFrom (l.take (k + 1)) (l.drop (k + 1)) else rollFault (l.take k) l[k] := by
  rw [List.drop_eq_getElem_cons hk, rollsFrom, List.take_succ_eq_append_getElem hk]
theorem rollsFrom_end (l : List Roll) (k : Nat) (hk : l.length ≤ k) : rollsFrom (l.take k) (l.drop k) = 0 := by
  rw [List.drop_eq_nil_of_le hk, rollsFrom]
/-- What a right list of rolls gives. -/
theorem rollsFrom_ok (l : List Roll) (pre : List Roll) (h : rollsFrom pre l = 0) : ∀ r ∈ l, isRateB r.rate = true ∧ rollBadB r = false ∧ rollNameB r.name = true := by
  induction l generalizing pre with
  | nil => simp
  | cons x l ih =>
    rw [rollsFrom] at h
    have hx : rollFault pre x = 0 := by by_cases hf : rollFault pre x = 0 <;> simp_all
    rw [if_pos hx] at h
    intro r hr
    rcases List.mem_cons.1 hr with rfl | hr
    · unfold rollFault at hx
      split at hx
      · omega
      · split at hx
        · omega
        · split at hx
          · omega
          · split at hx
            · omega
            · rename_i h1 _ h2 h3
              exact ⟨by simpa using h2, by simpa using h3, by simpa using h1⟩
    · exact ih _ h r hr
theorem rollsFault_ok (l : List Roll) (h : rollsFault l = 0) : ∀ r ∈ l, isRateB r.rate = true ∧ rollBadB r = false ∧ rollNameB r.name = true := by
  unfold rollsFault at h
  split at h
  · cases h
  · exact rollsFrom_ok l [] h

/-- The roll with a name. -/
def rollIdx (l : List Roll) (s : ByteArray) : Option Nat := l.findIdx? fun y => decide (y.name = s)
def rollHas (l : List Roll) (s : ByteArray) : Bool := (rollIdx l s).isSome
def rollGet (l : List Roll) (s : ByteArray) : Roll := match rollIdx l s with
  | some k => (l[k]?).getD Roll.zero
  | none => Roll.zero
theorem rollIdx_lt {l : List Roll} {s : ByteArray} {k : Nat} (h : rollIdx l s = some k) : k < l.length := by
  unfold rollIdx at h
  rw [List.findIdx?_eq_some_iff_getElem] at h
  exact h.1
theorem rollGet_mem {l : List Roll} {s : ByteArray} (h : rollHas l s = true) : rollGet l s ∈ l := by
  unfold rollHas at h
  cases hi : rollIdx l s with
  | none => rw [hi] at h; cases h
  | some k =>
    have hk := rollIdx_lt hi
    simp [rollGet, hi, hk]

/-- The frame of the sound's roll: its place and its error. -/
def onB (start long x : Int) : Bool := decide (start ≤ x) && decide (x < start + long)
def syncN (r s : Roll) (tin frame : Int) : Int := convN tin r.rate s.rate + (frame - tin) * (upDown r.rate s.rate).1 * (1000000 + s.drift) / ((upDown r.rate s.rate).2 * 1000000)
def syncE (l : List Roll) (roll sound : ByteArray) (tin tout frame : Int) : Int :=
  if rollsFault l ≠ 0 then rollsFault l else if rollHas l roll = false then 8 else if rollHas l sound = false then 8
  else if frame < tin then 1 else if tout ≤ frame then 1 else if onB (rollGet l roll).start (rollGet l roll).long tin = false then 1 else if onB (rollGet l roll).start (rollGet l roll).long (tout - 1) = false then 1
  else if framesN (rollGet l sound).rate ≤ convN tin (rollGet l roll).rate (rollGet l sound).rate then 1
  else if onB (rollGet l sound).start (rollGet l sound).long (syncN (rollGet l roll) (rollGet l sound) tin frame) = false then 1 else 0
def syncA (l : List Roll) (roll sound : ByteArray) (tin tout frame : Int) : Int :=
  if syncE l roll sound tin tout frame = 0 then syncN (rollGet l roll) (rollGet l sound) tin frame else 0
theorem convN_nonneg {x f t : Int} (hf : isRateB f = true) (ht : isRateB t = true) (hx : 0 ≤ x) : 0 ≤ convN x f t := by
  have h := ud_small hf ht
  exact Int.ediv_nonneg (Int.mul_nonneg hx (by omega)) (by omega)
/-- What the sums of a frame stay below. -/
theorem sync_bd {r s : Roll} {tin frame : Int} (hr : isRateB r.rate = true) (hs : isRateB s.rate = true) (hd : -1000 ≤ s.drift) (hd2 : s.drift ≤ 1000) (h1 : tin ≤ frame) (h2 : frame - tin ≤ 2592000) :
    0 ≤ (frame - tin) * (upDown r.rate s.rate).1 ∧ (frame - tin) * (upDown r.rate s.rate).1 ≤ 3240000000 ∧ 0 ≤ (frame - tin) * (upDown r.rate s.rate).1 * (1000000 + s.drift) ∧ (frame - tin) * (upDown r.rate s.rate).1 * (1000000 + s.drift) ≤ 3243240000000000
      ∧ 1000000 ≤ (upDown r.rate s.rate).2 * 1000000 ∧ (upDown r.rate s.rate).2 * 1000000 ≤ 1250000000
      ∧ 0 ≤ (frame - tin) * (upDown r.rate s.rate).1 * (1000000 + s.drift) / ((upDown r.rate s.rate).2 * 1000000) ∧ (frame - tin) * (upDown r.rate s.rate).1 * (1000000 + s.drift) / ((upDown r.rate s.rate).2 * 1000000) ≤ 3243240000000000 := by
  have h := ud_small hr hs
  have a := mul_bd (a := frame - tin) (b := (upDown r.rate s.rate).1) (by omega) (by omega) h2 h.2.1
  have b := mul_bd (a := (frame - tin) * (upDown r.rate s.rate).1) (b := 1000000 + s.drift) a.1 (by omega) a.2 (show _ ≤ (1001000 : Int) by omega)
  have c : 0 ≤ (frame - tin) * (upDown r.rate s.rate).1 * (1000000 + s.drift) / ((upDown r.rate s.rate).2 * 1000000) := Int.ediv_nonneg b.1 (by omega)
  have d := Int.ediv_le_self ((upDown r.rate s.rate).2 * 1000000) b.1
  omega
end Go.Proofs.YtkhegeobdcemkaaGreatDoor

/- Reading codes, in plain words. No program in sight. -/
namespace Go.Proofs.YtkhegeobdcemkaaGreatDoor
set_option linter.unusedVariables false
open Go.RowKit

def bt (s : ByteArray) (i : Nat) : Int := if h : i < s.size then (s[i].toNat : Int) else 0
theorem bt_of {s : ByteArray} {i : Nat} (h : i < s.size) : bt s i = s[i].toNat := dif_pos h
def isDg (x : Int) : Prop := 48 ≤ x ∧ x ≤ 57
def okPair (s : ByteArray) (i : Nat) : Prop := isDg (bt s (3 * i)) ∧ isDg (bt s (3 * i + 1))
def nAt (s : ByteArray) (i : Nat) : Int := 10 * (bt s (3 * i) - 48) + (bt s (3 * i + 1) - 48)
def dropN (r m : Int) : Int := if r = 4 then 2 * (m - m / 10) else 0
def frameOf (r a b c d : Int) : Int := (60 * (60 * a + b) + c) * countedN r + d - dropN r (60 * a + b)
theorem nAt_bd {s : ByteArray} {i : Nat} (h : okPair s i) : 0 ≤ nAt s i ∧ nAt s i ≤ 99 := by
  obtain ⟨⟨a, b⟩, c, d⟩ := h
  unfold nAt
  omega
/-- What a reader of codes must say. -/
def readP (r : Int) (s : ByteArray) (v : Int) (ok : Bool) : Prop :=
  (ok = true → 0 ≤ v ∧ v < framesN r ∧ codeS r v = s) ∧ (ok = false → ∀ x, 0 ≤ x → x < framesN r → codeS r x ≠ s)

theorem u8of {x : Int} (h0 : 0 ≤ x) (h1 : x ≤ 207) : ((UInt8.ofNat (48 + x).toNat).toNat : Int) = 48 + x := by
  rw [UInt8.toNat_ofNat']
  omega
theorem fields {r n c : Int} (hc : c = 24 ∨ c = 25 ∨ c = 30) (h0 : 0 ≤ n) (h1 : n < 86400 * c) :
    ∃ H M S F : Int, H = n / c / 3600 ∧ M = n / c / 60 % 60 ∧ S = n / c % 60 ∧ F = n % c ∧ 0 ≤ H ∧ H < 24 ∧ 0 ≤ M ∧ M < 60 ∧ 0 ≤ S ∧ S < 60 ∧ 0 ≤ F ∧ F < 30 ∧ n = (60 * (60 * H + M) + S) * c + F ∧ 60 * H + M = n / (60 * c) := by
  refine ⟨_, _, _, _, rfl, rfl, rfl, rfl, ?_⟩
  rcases hc with rfl | rfl | rfl <;> omega
theorem fmt_read (q : ByteArray) (hq : ∃ z, q = ⟨#[z]⟩) {H M S F : Int} (hH : 0 ≤ H ∧ H < 100) (hM : 0 ≤ M ∧ M < 100) (hS : 0 ≤ S ∧ S < 100) (hF : 0 ≤ F ∧ F < 100) {s : ByteArray}
    (h : s = twoS H ++ ⟨#[58]⟩ ++ twoS M ++ ⟨#[58]⟩ ++ twoS S ++ q ++ twoS F) :
    s.size = 11 ∧ (∀ i, i < 4 → okPair s i) ∧ nAt s 0 = H ∧ nAt s 1 = M ∧ nAt s 2 = S ∧ nAt s 3 = F := by
  obtain ⟨z, rfl⟩ := hq
  rw [twoS_eq hH.1 hH.2, twoS_eq hM.1 hM.2, twoS_eq hS.1 hS.2, twoS_eq hF.1 hF.2] at h
  have h' : s = ⟨#[UInt8.ofNat (48 + H / 10).toNat, UInt8.ofNat (48 + H % 10).toNat, 58, UInt8.ofNat (48 + M / 10).toNat, UInt8.ofNat (48 + M % 10).toNat, 58, UInt8.ofNat (48 + S / 10).toNat, UInt8.ofNat (48 + S % 10).toNat, z, UInt8.ofNat (48 + F / 10).toNat, UInt8.ofNat (48 + F % 10).toNat]⟩ := by
    rw [h]; rfl
  subst h'
  have a0 := u8of (x := H / 10) (by omega) (by omega)
  have a1 := u8of (x := H % 10) (by omega) (by omega)
  have a2 := u8of (x := M / 10) (by omega) (by omega)
  have a3 := u8of (x := M % 10) (by omega) (by omega)
  have a4 := u8of (x := S / 10) (by omega) (by omega)
  have a5 := u8of (x := S % 10) (by omega) (by omega)
  have a6 := u8of (x := F / 10) (by omega) (by omega)
  have a7 := u8of (x := F % 10) (by omega) (by omega)
  generalize UInt8.ofNat (48 + H / 10).toNat = c0 at *
  generalize UInt8.ofNat (48 + H % 10).toNat = c1 at *
  generalize UInt8.ofNat (48 + M / 10).toNat = c2 at *
  generalize UInt8.ofNat (48 + M % 10).toNat = c3 at *
  generalize UInt8.ofNat (48 + S / 10).toNat = c4 at *
  generalize UInt8.ofNat (48 + S % 10).toNat = c5 at *
  generalize UInt8.ofNat (48 + F / 10).toNat = c6 at *
  generalize UInt8.ofNat (48 + F % 10).toNat = c7 at *
  clear h
  have e0 : bt ⟨#[c0, c1, 58, c2, c3, 58, c4, c5, z, c6, c7]⟩ 0 = c0.toNat := rfl
  have e1 : bt ⟨#[c0, c1, 58, c2, c3, 58, c4, c5, z, c6, c7]⟩ 1 = c1.toNat := rfl
  have e3 : bt ⟨#[c0, c1, 58, c2, c3, 58, c4, c5, z, c6, c7]⟩ 3 = c2.toNat := rfl
  have e4 : bt ⟨#[c0, c1, 58, c2, c3, 58, c4, c5, z, c6, c7]⟩ 4 = c3.toNat := rfl
  have e6 : bt ⟨#[c0, c1, 58, c2, c3, 58, c4, c5, z, c6, c7]⟩ 6 = c4.toNat := rfl
  have e7 : bt ⟨#[c0, c1, 58, c2, c3, 58, c4, c5, z, c6, c7]⟩ 7 = c5.toNat := rfl
  have e9 : bt ⟨#[c0, c1, 58, c2, c3, 58, c4, c5, z, c6, c7]⟩ 9 = c6.toNat := rfl
  have e10 : bt ⟨#[c0, c1, 58, c2, c3, 58, c4, c5, z, c6, c7]⟩ 10 = c7.toNat := rfl
  refine ⟨rfl, fun i hi => ?_, ?_, ?_, ?_, ?_⟩
  · unfold okPair isDg
    match i, hi with
    | 0, _ => rw [e0, e1]; omega
    | 1, _ => rw [e3, e4]; omega
    | 2, _ => rw [e6, e7]; omega
    | 3, _ => rw [e9, e10]; omega
  · unfold nAt; rw [e0, e1]; omega
  · unfold nAt; rw [e3, e4]; omega
  · unfold nAt; rw [e6, e7]; omega
  · unfold nAt; rw [e9, e10]; omega

theorem codeS_read {r x : Int} (hr : isRateB r = true) (h0 : 0 ≤ x) (h1 : x < framesN r) :
    (codeS r x).size = 11 ∧ (∀ i, i < 4 → okPair (codeS r x) i) ∧ frameOf r (nAt (codeS r x) 0) (nAt (codeS r x) 1) (nAt (codeS r x) 2) (nAt (codeS r x) 3) = x := by
  have hq : ∃ z, colonS r = ⟨#[z]⟩ := by unfold colonS; split <;> exact ⟨_, rfl⟩
  have hn : countedN r = 24 ∨ countedN r = 25 ∨ countedN r = 30 := by rcases rate_cases hr with rfl | rfl | rfl | rfl <;> decide
  have ha : 0 ≤ adjN r x ∧ adjN r x < 86400 * countedN r ∧ adjN r x - dropN r (adjN r x / (60 * countedN r)) = x := by
    unfold adjN dropN
    rcases rate_cases hr with rfl | rfl | rfl | rfl
    · rw [if_neg (by decide), if_neg (by decide)]; change x < 2073600 at h1; change 0 ≤ x ∧ x < 86400 * 24 ∧ _; omega
    · rw [if_neg (by decide), if_neg (by decide)]; change x < 2160000 at h1; change 0 ≤ x ∧ x < 86400 * 25 ∧ _; omega
    · rw [if_neg (by decide), if_neg (by decide)]; change x < 2592000 at h1; change 0 ≤ x ∧ x < 86400 * 30 ∧ _; omega
    · rw [if_pos rfl, if_pos rfl, show countedN 4 = 30 from rfl]
      change x < 2589408 at h1
      by_cases hh : 1800 ≤ x % 17982
      · rw [if_pos hh]; omega
      · rw [if_neg hh]; omega
  obtain ⟨H, M, S, F, eH, eM, eS, eF, b1, b2, b3, b4, b5, b6, b7, b8, hN, hm⟩ := fields (r := r) hn ha.1 ha.2.1
  have hs : codeS r x = twoS H ++ ⟨#[58]⟩ ++ twoS M ++ ⟨#[58]⟩ ++ twoS S ++ colonS r ++ twoS F := by
    unfold codeS fmtS; rw [eH, eM, eS, eF]
  obtain ⟨z0, z1, z2, z3, z4, z5⟩ := fmt_read (colonS r) hq ⟨b1, by omega⟩ ⟨b3, by omega⟩ ⟨b5, by omega⟩ ⟨b7, by omega⟩ hs
  refine ⟨z0, z1, ?_⟩
  rw [z2, z3, z4, z5]
  unfold frameOf
  rw [hm] at hN ⊢
  rw [← hN]
  exact ha.2.2
/-- The reader's two ways. -/
theorem readP_none {r : Int} {s : ByteArray} (hr : isRateB r = true) (h : s.size ≠ 11 ∨ ∃ i, i < 4 ∧ ¬ okPair s i) (v : Int) : readP r s v false := by
  refine ⟨fun h => by simp at h, fun _ x h0 h1 hx => ?_⟩
  obtain ⟨a, b, _⟩ := codeS_read hr h0 h1
  rw [hx] at a b
  rcases h with h | ⟨i, hi, h⟩
  · exact h a
  · exact h (b i hi)
theorem readP_some {r : Int} {s : ByteArray} {v : Int} {ok : Bool} (hr : isRateB r = true) (hv : v = frameOf r (nAt s 0) (nAt s 1) (nAt s 2) (nAt s 3)) (h : ok = true ↔ 0 ≤ v ∧ v < framesN r ∧ codeS r v = s) : readP r s v ok := by
  refine ⟨fun hh => h.1 hh, fun hh x h0 h1 hx => ?_⟩
  obtain ⟨_, _, b⟩ := codeS_read hr h0 h1
  rw [hx] at b
  rw [← hv] at b
  have := h.2 ⟨by omega, by omega, by rw [b]; exact hx⟩
  simp [hh] at this
theorem readP_same {r : Int} {s : ByteArray} {v v' : Int} {ok ok' : Bool} (hr : isRateB r = true) (h : readP r s v ok) (h' : readP r s v' ok') : ok = ok' ∧ (ok = true → v = v') := by
  cases ok <;> cases ok'
  · exact ⟨rfl, fun h => by simp at h⟩
  · obtain ⟨a, b, c⟩ := h'.1 rfl
    exact absurd c (h.2 rfl _ a b)
  · obtain ⟨a, b, c⟩ := h.1 rfl
    exact absurd c (h'.2 rfl _ a b)
  · obtain ⟨a, b, c⟩ := h.1 rfl
    obtain ⟨a', b', c'⟩ := h'.1 rfl
    refine ⟨rfl, fun _ => ?_⟩
    obtain ⟨_, _, e⟩ := codeS_read hr a b
    obtain ⟨_, _, e'⟩ := codeS_read hr a' b'
    rw [c] at e; rw [c'] at e'
    exact e.symm.trans e'
end Go.Proofs.YtkhegeobdcemkaaGreatDoor

/- Codes by their fields, in plain words. No program in sight. -/
namespace Go.Proofs.YtkhegeobdcemkaaGreatDoor
set_option linter.unusedVariables false
open Go.RowKit

theorem decode_ascii {s : ByteArray} {i : Nat} (hi : i < s.size) (h : s[i].toNat < 128) : Utf8.decode s i = (s[i].toNat, 1) := by
  unfold Utf8.decode
  have e : s.get! (i + 0) = s[i] := by
    rw [Nat.add_zero]
    show s.data[i]! = s.data[i]
    exact getElem!_pos s.data i hi
  simp only [e]
  rw [if_pos h]
def isCol (x : Nat) : Bool := x == 58 || x == 59
def figB (c : UInt8) : Bool := decide (48 ≤ c.toNat) && decide (c.toNat ≤ 57)
def fldOk (f : ByteArray) : Prop := f.size = 2 ∧ allB figB f = true
def fldV (f : ByteArray) : Int := 10 * (bt f 0 - 48) + (bt f 1 - 48)

/-- A text with four pairs of digits between three signs. -/
theorem fields_eq (c0 c1 c2 c3 c4 c5 c6 c7 q0 q1 z : UInt8) (h : ∀ c ∈ [c0, c1, c2, c3, c4, c5, c6, c7], 48 ≤ c.toNat ∧ c.toNat ≤ 57) (hz : ∀ c ∈ [q0, q1, z], c.toNat = 58 ∨ c.toNat = 59) :
    Lib.goFieldsP isCol ⟨#[c0, c1, q0, c2, c3, q1, c4, c5, z, c6, c7]⟩ = [⟨#[c0, c1]⟩, ⟨#[c2, c3]⟩, ⟨#[c4, c5]⟩, ⟨#[c6, c7]⟩] := by
  obtain ⟨s, hs⟩ : ∃ s : ByteArray, s = ⟨#[c0, c1, q0, c2, c3, q1, c4, c5, z, c6, c7]⟩ := ⟨_, rfl⟩
  rw [← hs]
  have hsz : s.size = 11 := by rw [hs]; rfl
  have st : ∀ (f pos : Nat) (b : UInt8) (st : Option Nat) (acc : List (Nat × Nat)) (hp : pos < s.size), s[pos] = b → b.toNat < 128 →
      Lib.spansFromP isCol s (f + 1) pos st acc = if isCol b.toNat then (match st with | some a => Lib.spansFromP isCol s f (pos + 1) none (acc ++ [(a, pos)]) | none => Lib.spansFromP isCol s f (pos + 1) none acc)
        else (match st with | some a => Lib.spansFromP isCol s f (pos + 1) (some a) acc | none => Lib.spansFromP isCol s f (pos + 1) (some pos) acc) := by
    intro f pos b st acc hp hb h8
    conv => lhs; unfold Lib.spansFromP
    rw [if_pos hp, decode_ascii hp (by rw [hb]; exact h8), hb]
    rfl
  have dg : ∀ c ∈ [c0, c1, c2, c3, c4, c5, c6, c7], isCol c.toNat = false ∧ c.toNat < 128 := fun c hc => by have := h c hc; simp [isCol]; omega
  have cl : ∀ c ∈ [q0, q1, z], isCol c.toNat = true ∧ c.toNat < 128 := fun c hc => by have := hz c hc; simp [isCol]; omega
  have a0 := dg c0 (by simp)
  have a1 := dg c1 (by simp)
  have a2 := dg c2 (by simp)
  have a3 := dg c3 (by simp)
  have a4 := dg c4 (by simp)
  have a5 := dg c5 (by simp)
  have a6 := dg c6 (by simp)
  have a7 := dg c7 (by simp)
  have b0 := cl q0 (by simp)
  have b1 := cl q1 (by simp)
  have b2 := cl z (by simp)
  have e0 : s[0]'(by omega) = c0 := by subst hs; rfl
  have e1 : s[1]'(by omega) = c1 := by subst hs; rfl
  have e2 : s[2]'(by omega) = q0 := by subst hs; rfl
  have e3 : s[3]'(by omega) = c2 := by subst hs; rfl
  have e4 : s[4]'(by omega) = c3 := by subst hs; rfl
  have e5 : s[5]'(by omega) = q1 := by subst hs; rfl
  have e6 : s[6]'(by omega) = c4 := by subst hs; rfl
  have e7 : s[7]'(by omega) = c5 := by subst hs; rfl
  have e8 : s[8]'(by omega) = z := by subst hs; rfl
  have e9 : s[9]'(by omega) = c6 := by subst hs; rfl
  have e10 : s[10]'(by omega) = c7 := by subst hs; rfl
  have key : Lib.spansFromP isCol s 11 0 none [] = ([(0, 2), (3, 5), (6, 8)], some 9) := by
    rw [st 10 0 c0 _ _ (by omega) e0 a0.2, a0.1]
    simp only [Bool.false_eq_true, if_false, Nat.zero_add]
    rw [st 9 1 c1 _ _ (by omega) e1 a1.2, a1.1]
    simp only [Bool.false_eq_true, if_false, Nat.reduceAdd]
    rw [st 8 2 q0 _ _ (by omega) e2 b0.2, b0.1]
    simp only [if_true, Nat.reduceAdd]
    rw [st 7 3 c2 _ _ (by omega) e3 a2.2, a2.1]
    simp only [Bool.false_eq_true, if_false, Nat.reduceAdd]
    rw [st 6 4 c3 _ _ (by omega) e4 a3.2, a3.1]
    simp only [Bool.false_eq_true, if_false, Nat.reduceAdd]
    rw [st 5 5 q1 _ _ (by omega) e5 b1.2, b1.1]
    simp only [if_true, Nat.reduceAdd]
    rw [st 4 6 c4 _ _ (by omega) e6 a4.2, a4.1]
    simp only [Bool.false_eq_true, if_false, Nat.reduceAdd]
    rw [st 3 7 c5 _ _ (by omega) e7 a5.2, a5.1]
    simp only [Bool.false_eq_true, if_false, Nat.reduceAdd]
    rw [st 2 8 z _ _ (by omega) e8 b2.2, b2.1]
    simp only [if_true, Nat.reduceAdd]
    rw [st 1 9 c6 _ _ (by omega) e9 a6.2, a6.1]
    simp only [Bool.false_eq_true, if_false, Nat.reduceAdd]
    rw [st 0 10 c7 _ _ (by omega) e10 a7.2, a7.1]
    simp only [Bool.false_eq_true, if_false, Nat.reduceAdd]
    rfl
  unfold Lib.goFieldsP Lib.spansOfP
  rw [hsz, key]
  unfold Lib.closeSpans
  rw [hsz, hs]
  rfl

theorem u8d {x : Int} (h0 : 0 ≤ x) (h1 : x ≤ 9) : 48 ≤ (UInt8.ofNat (48 + x).toNat).toNat ∧ (UInt8.ofNat (48 + x).toNat).toNat ≤ 57 := by
  have := u8of (x := x) h0 (by omega); omega
/-- The fields of a code. -/
theorem codeS_fields {r x : Int} (hr : isRateB r = true) (h0 : 0 ≤ x) (h1 : x < framesN r) :
    (Lib.goFieldsP isCol (codeS r x)).length = 4 ∧ (∀ (j : Nat) (f : ByteArray), (Lib.goFieldsP isCol (codeS r x))[j]? = some f → fldOk f ∧ fldV f = nAt (codeS r x) j) := by
  have hn : countedN r = 24 ∨ countedN r = 25 ∨ countedN r = 30 := by rcases rate_cases hr with rfl | rfl | rfl | rfl <;> decide
  have ha : 0 ≤ adjN r x ∧ adjN r x < 86400 * countedN r := by
    unfold adjN
    rcases rate_cases hr with rfl | rfl | rfl | rfl
    · rw [if_neg (by decide)]; change x < 2073600 at h1; change 0 ≤ x ∧ x < 86400 * 24; omega
    · rw [if_neg (by decide)]; change x < 2160000 at h1; change 0 ≤ x ∧ x < 86400 * 25; omega
    · rw [if_neg (by decide)]; change x < 2592000 at h1; change 0 ≤ x ∧ x < 86400 * 30; omega
    · rw [if_pos rfl, show countedN 4 = 30 from rfl]
      change x < 2589408 at h1
      by_cases hh : 1800 ≤ x % 17982
      · rw [if_pos hh]; omega
      · rw [if_neg hh]; omega
  obtain ⟨H, M, S, F, eH, eM, eS, eF, b1, b2, b3, b4, b5, b6, b7, b8, hN, hm⟩ := fields (r := r) hn ha.1 ha.2
  have hs : codeS r x = twoS H ++ ⟨#[58]⟩ ++ twoS M ++ ⟨#[58]⟩ ++ twoS S ++ colonS r ++ twoS F := by
    unfold codeS fmtS; rw [eH, eM, eS, eF]
  obtain ⟨z, hz, hz2⟩ : ∃ z : UInt8, colonS r = ⟨#[z]⟩ ∧ (z.toNat = 58 ∨ z.toNat = 59) := by
    unfold colonS; split
    · exact ⟨59, rfl, .inr rfl⟩
    · exact ⟨58, rfl, .inl rfl⟩
  rw [hz, twoS_eq b1 (by omega), twoS_eq b3 (by omega), twoS_eq b5 (by omega), twoS_eq b7 (by omega)] at hs
  have d0 := u8d (x := H / 10) (by omega) (by omega)
  have d1 := u8d (x := H % 10) (by omega) (by omega)
  have d2 := u8d (x := M / 10) (by omega) (by omega)
  have d3 := u8d (x := M % 10) (by omega) (by omega)
  have d4 := u8d (x := S / 10) (by omega) (by omega)
  have d5 := u8d (x := S % 10) (by omega) (by omega)
  have d6 := u8d (x := F / 10) (by omega) (by omega)
  have d7 := u8d (x := F % 10) (by omega) (by omega)
  generalize UInt8.ofNat (48 + H / 10).toNat = c0 at *
  generalize UInt8.ofNat (48 + H % 10).toNat = c1 at *
  generalize UInt8.ofNat (48 + M / 10).toNat = c2 at *
  generalize UInt8.ofNat (48 + M % 10).toNat = c3 at *
  generalize UInt8.ofNat (48 + S / 10).toNat = c4 at *
  generalize UInt8.ofNat (48 + S % 10).toNat = c5 at *
  generalize UInt8.ofNat (48 + F / 10).toNat = c6 at *
  generalize UInt8.ofNat (48 + F % 10).toNat = c7 at *
  have h' : codeS r x = ⟨#[c0, c1, 58, c2, c3, 58, c4, c5, z, c6, c7]⟩ := by rw [hs]; rfl
  rw [h', fields_eq c0 c1 c2 c3 c4 c5 c6 c7 58 58 z (by simp; omega) (by simp; exact hz2)]
  refine ⟨rfl, fun j f hj => ?_⟩
  have mk : ∀ a b : UInt8, (48 ≤ a.toNat ∧ a.toNat ≤ 57) → (48 ≤ b.toNat ∧ b.toNat ≤ 57) → fldOk ⟨#[a, b]⟩ := fun a b h1 h2 => ⟨rfl, by simp [allB, figB]; omega⟩
  match j, hj with
  | 0, hj => cases hj; exact ⟨mk _ _ d0 d1, rfl⟩
  | 1, hj => cases hj; exact ⟨mk _ _ d2 d3, rfl⟩
  | 2, hj => cases hj; exact ⟨mk _ _ d4 d5, rfl⟩
  | 3, hj => cases hj; exact ⟨mk _ _ d6 d7, rfl⟩
  | j + 4, hj => cases hj

/-- What Atoi makes of a right field. -/
theorem fld_two {f : ByteArray} (h : fldOk f) : ∃ a b : UInt8, f = ⟨#[a, b]⟩ ∧ (48 ≤ a.toNat ∧ a.toNat ≤ 57) ∧ (48 ≤ b.toNat ∧ b.toNat ≤ 57) := by
  obtain ⟨h2, ha⟩ := h
  have e : f = ⟨#[f[0]'(by omega), f[1]'(by omega)]⟩ := by
    rcases f with ⟨⟨l⟩⟩
    have hl : l.length = 2 := h2
    match l, hl with
    | [a, b], _ => rfl
  refine ⟨_, _, e, ?_⟩
  rw [e] at ha
  simp [allB, figB] at ha
  exact ⟨ha.1, ha.2⟩
theorem fld_atoi {f : ByteArray} (h : fldOk f) : Lib.atoiAll f.data.toList = .ok (fldV f) := by
  obtain ⟨a, b, rfl, ha, hb⟩ := fld_two h
  have e0 : bt ⟨#[a, b]⟩ 0 = a.toNat := rfl
  have e1 : bt ⟨#[a, b]⟩ 1 = b.toNat := rfl
  unfold fldV
  rw [e0, e1]
  show Lib.atoiAll [a, b] = _
  unfold Lib.atoiAll
  have n1 : ¬ (a.toNat = 43 ∨ a.toNat = 45) := by omega
  have n2 : ¬ a.toNat = 45 := by omega
  have hp : Lib.parseMag [a, b] = .ok (10 * (a.toNat - 48) + (b.toNat - 48)) := by
    unfold Lib.parseMag
    rw [if_neg (by simp)]
    rw [Lib.parseUint10, if_pos ha, if_neg (by omega), if_neg (by omega), Lib.parseUint10, if_pos hb, if_neg (by omega), if_neg (by omega), Lib.parseUint10]
    congr 1; omega
  simp only [if_neg n1, hp]
  rw [if_neg (by omega), if_neg (by omega), if_neg n2]
  congr 1; omega
theorem fld_bd {f : ByteArray} (h : fldOk f) : 0 ≤ fldV f ∧ fldV f ≤ 99 := by
  obtain ⟨a, b, rfl, ha, hb⟩ := fld_two h
  have e0 : bt ⟨#[a, b]⟩ 0 = a.toNat := rfl
  have e1 : bt ⟨#[a, b]⟩ 1 = b.toNat := rfl
  unfold fldV
  rw [e0, e1]; omega

/-- The reader by fields. -/
theorem readF_none {r : Int} {s : ByteArray} (hr : isRateB r = true) (h : (Lib.goFieldsP isCol s).length ≠ 4 ∨ ∃ (j : Nat) (f : ByteArray), (Lib.goFieldsP isCol s)[j]? = some f ∧ ¬ fldOk f) (v : Int) : readP r s v false := by
  refine ⟨fun h => by simp at h, fun _ x h0 h1 hx => ?_⟩
  obtain ⟨a, b⟩ := codeS_fields hr h0 h1
  rw [hx] at a b
  rcases h with h | ⟨j, f, hj, h⟩
  · exact h a
  · exact h (b j f hj).1
theorem readF_some {r : Int} {s : ByteArray} {v : Int} {ok : Bool} {f0 f1 f2 f3 : ByteArray} (hr : isRateB r = true) (hf : Lib.goFieldsP isCol s = [f0, f1, f2, f3]) (hv : v = frameOf r (fldV f0) (fldV f1) (fldV f2) (fldV f3)) (h : ok = true ↔ 0 ≤ v ∧ v < framesN r ∧ codeS r v = s) : readP r s v ok := by
  refine ⟨fun hh => h.1 hh, fun hh x h0 h1 hx => ?_⟩
  obtain ⟨_, b⟩ := codeS_fields hr h0 h1
  obtain ⟨_, _, c⟩ := codeS_read hr h0 h1
  rw [hx] at b c
  rw [hf] at b
  rw [← (b 0 f0 rfl).2, ← (b 1 f1 rfl).2, ← (b 2 f2 rfl).2, ← (b 3 f3 rfl).2, ← hv] at c
  have := h.2 ⟨by omega, by omega, by rw [c]; exact hx⟩
  simp [hh] at this
end Go.Proofs.YtkhegeobdcemkaaGreatDoor

