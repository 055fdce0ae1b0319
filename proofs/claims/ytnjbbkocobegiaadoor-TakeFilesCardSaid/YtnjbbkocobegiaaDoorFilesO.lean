/- The reference's comparison of copies. -/
import Derived.Test.YtnjbbkocobegiaaDoorFilesC
import Derived.Test.YtnjbbkocobegiaaDoorOwn3
namespace Go.Proofs.YtnjbbkocobegiaaDoor
set_option linter.unusedVariables false
open Go.RowKit

theorem results_tmp4 {fn : Func} {t u v x : Tmp} (h : fn.results = #[.tmp t, .tmp u, .tmp v, .tmp x]) (tmps : Array Value) (P : Program) (w : World) :
    (results fn tmps).run P w = .ok (.tuple #[tmps.getD t undef, tmps.getD u undef, tmps.getD v undef, tmps.getD x undef]) w := by
  simp [results, h]
def isLost (b : List Copied) (x : Copied) : Bool := !hasCop b x.name
def isSpoilt (b : List Copied) (x : Copied) : Bool := hasCop b x.name && !decide (getCop b x.name = x)
def lostN (a b : List Copied) : List ByteArray := (a.filter (isLost b)).map (·.name)
def spoiltN (a b : List Copied) : List ByteArray := (a.filter (isSpoilt b)).map (·.name)
theorem lostN_step (a b : List Copied) (k : Nat) (hk : k < a.length) : lostN (a.take (k + 1)) b = lostN (a.take k) b ++ (if isLost b a[k] = true then [a[k].name] else []) := by
  rw [List.take_succ_eq_append_getElem hk]; unfold lostN; rw [List.filter_append, List.map_append]; congr 1
  by_cases h : isLost b a[k] = true
  · rw [if_pos h, List.filter_cons_of_pos h]; rfl
  · rw [if_neg h, List.filter_cons_of_neg h]; rfl
theorem spoiltN_step (a b : List Copied) (k : Nat) (hk : k < a.length) : spoiltN (a.take (k + 1)) b = spoiltN (a.take k) b ++ (if isSpoilt b a[k] = true then [a[k].name] else []) := by
  rw [List.take_succ_eq_append_getElem hk]; unfold spoiltN; rw [List.filter_append, List.map_append]; congr 1
  by_cases h : isSpoilt b a[k] = true
  · rw [if_pos h, List.filter_cons_of_pos h]; rfl
  · rw [if_neg h, List.filter_cons_of_neg h]; rfl
theorem lostN_len (a b : List Copied) : (lostN a b).length ≤ a.length := by unfold lostN; rw [List.length_map]; exact List.length_filter_le _ _
theorem spoiltN_len (a b : List Copied) : (spoiltN a b).length ≤ a.length := by unfold spoiltN; rw [List.length_map]; exact List.length_filter_le _ _
def lostQ (a b : List Copied) (e : Int) : List ByteArray := if e = 0 then lostN a b else []
def spoiltQ (a b : List Copied) (e : Int) : List ByteArray := if e = 0 then spoiltN a b else []
def CmpP (a b : List Copied) (w : World) (e : Ending) (w' : World) : Prop :=
  ∃ x y z, e = .returned (.tuple #[x, y, z, .int .i64 (cmpE a b)]) ∧ Sli strR w' (fun q => w.heap.size ≤ q ∧ q < w'.heap.size) (lostQ a b (cmpE a b)) x ∧ Sli strR w' (fun q => w.heap.size ≤ q ∧ q < w'.heap.size) (spoiltQ a b (cmpE a b)) y ∧ Sli strR w' (fun q => w.heap.size ≤ q ∧ q < w'.heap.size) (lostQ b a (cmpE a b)) z ∧ Below w.heap.size w w'
theorem CmpP.bad {a b : List Copied} {w w' : World} {e : Ending} {q : Int} (hq : cmpE a b = q) (h0 : ¬ q = 0) (he : e = .returned (.tuple #[.slice none 0 0, .slice none 0 0, .slice none 0 0, .int .i64 q])) (hb : Below w.heap.size w w') : CmpP a b w e w' := by
  subst hq
  refine ⟨_, _, _, he, ?_, ?_, ?_, hb⟩
  · rw [show lostQ a b (cmpE a b) = [] from if_neg h0]; exact Sli.nil_
  · rw [show spoiltQ a b (cmpE a b) = [] from if_neg h0]; exact Sli.nil_
  · rw [show lostQ b a (cmpE a b) = [] from if_neg h0]; exact Sli.nil_

def orI (a b : Int) : Int := if a = 0 then b else a
set_option maxHeartbeats 400000 in
theorem or_c (a b : Int) (B c : Nat) (w : World) (h0 : w.cell? ⟨B, 0, none⟩ = some (.int .i64 a)) (h1 : w.cell? ⟨B, 1, none⟩ = some (.int .i64 b)) :
    Calls Tryd.prog 27 #[.slice (some ⟨B, 0, none⟩) 2 c] w fun e w' => e = .returned (.int .i64 (orI a b)) ∧ w = w' := by
  by_cases ha : a = 0
  · have HV := Lib.hid (show orI a b = b from if_pos ha)
    subst ha
    by_cases hb : b = 0
    · subst hb
      go_enter Tryd.func27, Tryd.ntmps27
      go_wp2
      go_loop [8] (fun i => ∃ k : Nat, k ≤ 2 ∧ i = .int .i64 k) (fun i => 2 - (intOf i).toNat)
      case atStart => exact ⟨0, Nat.zero_le _, rfl⟩
      case round =>
        obtain ⟨k, hk, rfl⟩ := hrel
        have : k = 0 ∨ k = 1 ∨ k = 2 := by omega
        rcases this with rfl | rfl | rfl
        · go_wp2
          go_round
          case rel => exact ⟨1, by omega, rfl⟩
          case measure => decide
        · go_wp2
          go_round
          case rel => exact ⟨2, by omega, rfl⟩
          case measure => decide
        · go_wp2
          go_ret
          exact ⟨ret_int HV.out.symm, rfl⟩
    · go_enter Tryd.func27, Tryd.ntmps27
      go_wp2
      go_loop [8] (fun i => ∃ k : Nat, k ≤ 1 ∧ i = .int .i64 k) (fun i => 2 - (intOf i).toNat)
      case atStart => exact ⟨0, Nat.zero_le _, rfl⟩
      case round =>
        obtain ⟨k, hk, rfl⟩ := hrel
        have : k = 0 ∨ k = 1 := by omega
        rcases this with rfl | rfl
        · go_wp2
          go_round
          case rel => exact ⟨1, by omega, rfl⟩
          case measure => decide
        · go_wp2
          go_ret
          exact ⟨ret_int HV.out.symm, rfl⟩
  · have HV := Lib.hid (show orI a b = a from if_neg ha)
    go_enter Tryd.func27, Tryd.ntmps27
    go_wp2
    go_loop [8] (fun i => i = .int .i64 0) (fun i => 2 - (intOf i).toNat)
    case atStart => rfl
    case round =>
      obtain rfl := hrel
      go_wp2
      go_ret
      exact ⟨ret_int HV.out.symm, rfl⟩
end Go.Proofs.YtnjbbkocobegiaaDoor
