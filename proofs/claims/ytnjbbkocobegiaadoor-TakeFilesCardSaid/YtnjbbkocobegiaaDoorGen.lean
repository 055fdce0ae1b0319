/- The generator's own functions: what each returns lies in its range; only the stream's own block turns. -/
import Derived.Test.YtnjbbkocobegiaaDoorRows
import Derived.Test.YtnjbbkocobegiaaDoorMem
import Derived.BigQuiet
import Derived.Deep.QuietTactic
namespace Go.Proofs.YtnjbbkocobegiaaDoor
set_option linter.unusedVariables false
open Go.RowKit

/-- Block sb is a stream that has handed out k numbers. -/
def Str (w : World) (sb : Nat) (k : Int) : Prop :=
  ∃ (A : Option Addr) (c : Nat) (l : List Int), w.heap[sb]? = some (.cells #[.slice A l.length c, .int .i64 k] 26 (0, 0)) ∧ 0 ≤ k ∧ Rs w 0 sb 1 intc A l ∧ l.length ≤ 17592186044416 ∧ ∀ x ∈ l, okI x

/-- A call that takes at most d numbers off the stream: the value has p, only the stream has turned. -/
def Took (sb : Nat) (k d : Int) (p : Value → World → Prop) (w : World) (e : Ending) (w' : World) : Prop :=
  ∃ (v : Value) (k' : Int), e = .returned v ∧ p v w' ∧ k' ≤ k + d ∧ Str w' sb k' ∧ w.grownBy w' (some sb)

theorem tmod_lt (x n : Int) (hn : 1 ≤ n) : -n < x.tmod n ∧ x.tmod n < n := by
  have h1 := Int.tmod_lt_of_pos x (show (0:Int) < n by omega)
  have h2 := Int.tmod_lt_of_pos (-x) (show (0:Int) < n by omega)
  rw [Int.neg_tmod] at h2
  omega

set_option maxHeartbeats 400000 in
theorem below_c (x n : Int) (w : World) (hn : 1 ≤ n) (hn2 : n ≤ 4611686018427387904) :
    Calls Tryd.prog 39 #[.int .i64 x, .int .i64 n] w (RetInt (fun v => 0 ≤ v ∧ v < n) w) := by
  have ht := tmod_lt x n hn
  have hh : (-9223372036854775808 ≤ x.tmod n + n ∧ x.tmod n + n ≤ 9223372036854775807) := by omega
  have hw := IntWalk.wrap64_in _ hh
  have H1 := Lib.hid hw; clear hw hh
  have H2 := Lib.hid ht; clear ht
  go_enter Tryd.func39, Tryd.ntmps39
  go_wp2
  · go_ret
    have h := H2.out
    refine ⟨_, ?_, rfl, rfl⟩
    rw [H1.out]; omega
  · go_ret
    have h := H2.out
    exact ⟨_, by omega, rfl, rfl⟩

theorem str_cells {w : World} {sb : Nat} {cs : Array Value} {t : TypeId} (h : w.heap[sb]? = some (.cells cs t (0, 0))) :
    (∀ i, w.cell? ⟨sb, i, none⟩ = cs[i]?) ∧ (∀ i, w.frozen? ⟨sb, i, none⟩ = false) := by
  refine ⟨fun i => by simp [World.cell?, h], fun i => by simp [World.frozen?, h]⟩

theorem str_set {w : World} {sb : Nat} {v u v' : Value} {t : TypeId} (h : w.heap[sb]? = some (.cells #[v, u] t (0, 0))) :
    (w.setCell ⟨sb, 1, none⟩ v').heap[sb]? = some (.cells #[v, v'] t (0, 0)) := by
  simp [World.setCell, Array.getElem?_modify, h]

theorem heap_lt {w : World} {b : Nat} {o : Obj} (h : w.heap[b]? = some o) : b < w.heap.size := (Array.getElem?_eq_some_iff.1 h).1

theorem grown_set (w : World) (sb i : Nat) (v : Value) : w.grownBy (w.setCell ⟨sb, i, none⟩ v) (some sb) :=
  ⟨rfl, rfl, rfl, by simp [World.setCell], fun k _ hne => Below.heap_setCell w _ v k (fun e => hne (by rw [e]))⟩

theorem grown_drewN {a w : World} {row : Option Nat} (h : a.grownBy w row) (n : Nat) : a.grownBy (w.drewN n) row := ⟨h.os, h.tape, h.output, h.size, h.block⟩

theorem Str.set {w : World} {sb : Nat} {k : Int} (h : Str w sb k) (v : Int) (hv : 0 ≤ v) : Str (w.setCell ⟨sb, 1, none⟩ (.int .i64 v)) sb v := by
  obtain ⟨A, c, l, hb, _, hr, hl, ho⟩ := h
  exact ⟨A, c, l, str_set hb, hv, hr.setCell (.inl (Nat.le_refl _)) _, hl, ho⟩

theorem Str.drewN {w : World} {sb : Nat} {k : Int} (h : Str w sb k) (n : Nat) : Str (w.drewN n) sb k := h

set_option maxHeartbeats 400000 in
theorem next_c (sb : Nat) (k n : Int) (w : World) (hs : Str w sb k) (hk : k ≤ 4611686018427387904) (hn : 1 ≤ n) (hn2 : n ≤ 4611686018427387904) :
    Calls Tryd.prog 19 #[.pointer (some ⟨sb, 0, none⟩), .int .i64 n] w (Took sb k 1 (fun v _ => ∃ x : Int, 0 ≤ x ∧ x < n ∧ v = .int .i64 x) w) := by
  have hS := hs.set (k + 1) (by have := hs.choose_spec.choose_spec.choose_spec.2.1; omega)
  have HS := Lib.hid hS; clear hS
  obtain ⟨A, c, l, hb, hk0, hr, hl, ho⟩ := hs
  have HO := Lib.hid ho; clear ho
  obtain ⟨hc, hf⟩ := str_cells hb
  have c0 := hc 0
  have c1 := hc 1
  have f1 := hf 1
  have HB := Lib.hid hb
  simp at c0 c1
  clear hc hf hb
  have HG := grown_set w sb 1 (.int .i64 (k + 1))
  by_cases h0 : l.length = 0
  · have h0' : (((l.length : Nat) : Int) == 0) = true := by simp [h0]
    have H0 := Lib.hid h0; clear h0
    go_enter Tryd.func19, Tryd.ntmps19
    go_wp2_with fail
    refine (below_c _ _ _ hn hn2).mono ?_
    rintro e w' ⟨v, ⟨hv0, hv1⟩, rfl, rfl⟩
    go_wp2
    go_ret
    exact ⟨_, k + 1, rfl, ⟨v, hv0, hv1, rfl⟩, by omega, HS.out, HG⟩
  · have hlp : 0 < l.length := by omega
    obtain ⟨m, rfl⟩ := Int.eq_ofNat_of_zero_le hk0
    have hm : m % l.length < l.length := Nat.mod_lt _ hlp
    obtain ⟨b, off, rfl, hb0, hb1, hcell⟩ := hr.at1 (enc1 := .int .i64) hm
    have h0' : (((l.length : Nat) : Int) == 0) = false := beq_eq_false_iff_ne.2 (by omega)
    have h0'' : ¬ ((l.length : Nat) : Int) = 0 := by omega
    have hcell' : (w.setCell ⟨sb, 1, none⟩ (.int .i64 (m + 1))).cell? ⟨b, off + m % l.length, none⟩ = some (.int .i64 l[m % l.length]) := by
      rw [World.cell?_setCell_other _ _ _ _ (fun e => by have := congrArg Addr.block e; simp at this; omega)]; exact hcell
    clear hcell h0
    go_enter Tryd.func19, Tryd.ntmps19
    go_wp2
    go_quiet (fail)
    go_wp2
    go_quiet (fail)
    go_wp2_with fail
    refine (below_c _ _ _ (by omega) (by omega)).mono ?_
    rintro e w' ⟨v, ⟨hv0, hv1⟩, rfl, rfl⟩
    go_wp2_with fail
    refine (below_c _ _ _ hn hn2).mono ?_
    rintro e w' ⟨v2, ⟨hv2, hv3⟩, rfl, rfl⟩
    go_wp2
    go_ret
    exact ⟨_, m + 1, rfl, ⟨v2, hv2, hv3, rfl⟩, by omega, HS.out.drewN _, grown_drewN HG _⟩

theorem Took.mono {sb : Nat} {k d d' : Int} {p q : Value → World → Prop} {w : World} {e : Ending} {w' : World} (h : Took sb k d p w e w') (hd : d ≤ d') (hq : ∀ v w', p v w' → q v w') : Took sb k d' q w e w' :=
  let ⟨v, k', he, hp, hk, hs, hg⟩ := h
  ⟨v, k', he, hq _ _ hp, by omega, hs, hg⟩

def isInt (p : Int → Prop) (v : Value) (_ : World) : Prop := ∃ x : Int, p x ∧ v = .int .i64 x
def isBool (v : Value) (_ : World) : Prop := ∃ x : Bool, v = .bool x
def isStr (p : ByteArray → Prop) (v : Value) (_ : World) : Prop := ∃ x : ByteArray, p x ∧ v = .string x

set_option maxHeartbeats 400000 in
theorem flip_c (sb : Nat) (k n : Int) (w : World) (hs : Str w sb k) (hk : k ≤ 4611686018427387904) (hn : 1 ≤ n) (hn2 : n ≤ 4611686018427387904) :
    Calls Tryd.prog 18 #[.pointer (some ⟨sb, 0, none⟩), .int .i64 n] w (Took sb k 1 isBool w) := by
  have HS := Lib.hid hs
  go_enter Tryd.func18, Tryd.ntmps18
  go_wp2_with fail
  refine (next_c sb k _ _ HS.out hk hn hn2).mono ?_
  rintro e w' ⟨v, k', rfl, ⟨x, hx0, hx1, rfl⟩, hk', hs', hg⟩
  have HK := Lib.hid hs'; clear hs'
  go_wp2
  go_ret
  exact ⟨_, k', rfl, ⟨_, rfl⟩, hk', HK.out, hg⟩

set_option maxHeartbeats 400000 in
theorem pick_c (sb : Nat) (k : Int) (A : Option Addr) (l : List Int) (c lo hi : Nat) (w : World) (hs : Str w sb k) (hk : k ≤ 4611686018427387904) (hl0 : 0 < l.length) (hl : l.length ≤ 140737488355328)
    (hr : Rs w lo hi 1 intc A l) (hlo : sb < lo) (hhi : hi ≤ w.heap.size) :
    Calls Tryd.prog 22 #[.pointer (some ⟨sb, 0, none⟩), .slice A l.length c] w (Took sb k 1 (isInt (· ∈ l)) w) := by
  have HS := Lib.hid hs
  have HR := Lib.hid hr; clear hr
  go_enter Tryd.func22, Tryd.ntmps22
  go_wp2_with fail
  refine (next_c sb k _ _ HS.out hk (by omega) (by omega)).mono ?_
  rintro e w' ⟨v, k', rfl, ⟨x, hx0, hx1, rfl⟩, hk', hs', hg⟩
  have HK := Lib.hid hs'; clear hs'
  obtain ⟨m, rfl⟩ := Int.eq_ofNat_of_zero_le hx0
  have hm : m < l.length := by omega
  obtain ⟨b, off, rfl, hb0, hb1, hcell⟩ := (HR.out.grown hg hhi (.inr hlo)).at1 (enc1 := .int .i64) hm
  go_wp2
  go_ret
  exact ⟨_, k', rfl, ⟨_, List.getElem_mem hm, rfl⟩, hk', HK.out, hg⟩

set_option maxHeartbeats 400000 in
theorem one_c (sb : Nat) (k : Int) (A : Option Addr) (l : List ByteArray) (c lo hi : Nat) (w : World) (hs : Str w sb k) (hk : k ≤ 4611686018427387904) (hl0 : 0 < l.length) (hl : l.length ≤ 140737488355328)
    (hr : Rs w lo hi 1 strc A l) (hlo : sb < lo) (hhi : hi ≤ w.heap.size) :
    Calls Tryd.prog 17 #[.pointer (some ⟨sb, 0, none⟩), .slice A l.length c] w (Took sb k 1 (isStr (· ∈ l)) w) := by
  have HS := Lib.hid hs
  have HR := Lib.hid hr; clear hr
  go_enter Tryd.func17, Tryd.ntmps17
  go_wp2_with fail
  refine (next_c sb k _ _ HS.out hk (by omega) (by omega)).mono ?_
  rintro e w' ⟨v, k', rfl, ⟨x, hx0, hx1, rfl⟩, hk', hs', hg⟩
  have HK := Lib.hid hs'; clear hs'
  obtain ⟨m, rfl⟩ := Int.eq_ofNat_of_zero_le hx0
  have hm : m < l.length := by omega
  obtain ⟨b, off, rfl, hb0, hb1, hcell⟩ := (HR.out.grown hg hhi (.inr hlo)).at1 (enc1 := .string) hm
  go_wp2
  go_ret
  exact ⟨_, k', rfl, ⟨_, List.getElem_mem hm, rfl⟩, hk', HK.out, hg⟩

end Go.Proofs.YtnjbbkocobegiaaDoor
