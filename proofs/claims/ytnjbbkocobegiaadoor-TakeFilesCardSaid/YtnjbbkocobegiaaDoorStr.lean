/- Small laws on strings and bytes. No program in sight. -/
import Derived.Test.YtnjbbkocobegiaaDoorMem
import Derived.Laws.IdiomStrings
import Derived.Lib.QuietBelow
import Derived.BigQuiet
namespace Go.Proofs.YtnjbbkocobegiaaDoor
set_option linter.unusedVariables false
open Go.RowKit

/-- 'string([]byte{..})' of a literal that has just been laid. -/
theorem run_bytes_lit {P : Program} (w : World) (src dst e : TypeId) (hs : P.underlying src = some (.slice e)) (he : P.underlying e = some (.int .u8)) (hd : P.underlying dst = some .string) (ns : List Int) (n c : Nat) (hn : n = ns.length) (cs : Array Value) (hcs : cs = (ns.map (Value.int .u8)).toArray) (T : TypeId) :
    (convert src dst (.slice (some ⟨w.heap.size, 0, none⟩) n c)).run P (w.alloc (.cells cs T)) = .ok (.string ⟨(ns.map fun x => UInt8.ofNat x.toNat).toArray⟩) (w.alloc (.cells cs T)) := by
  subst hn; subst hcs
  rw [run_convert_bytes_string _ src dst e _ _ _ hs he hd]
  have hl := run_loadCells_list (P := P) (w.alloc (.cells (ns.map (Value.int .u8)).toArray T)) ⟨w.heap.size, 0, none⟩ (ns.map (Value.int .u8)) (fun j v hj => by
    have : (⟨w.heap.size, 0, none⟩ : Addr).add j = ⟨w.heap.size, j, none⟩ := by unfold Addr.add; split <;> simp [*]
    rw [this]
    rw [World.cell?_alloc_mark]
    simpa using hj)
  simp only [List.length_map] at hl
  rw [run_bytesToString _ _ _ c ns hl]
  have hf : ∀ (l : List Int) (s : ByteArray), l.foldl (fun r x => r.push (UInt8.ofNat x.toNat)) s = ⟨s.data ++ (l.map fun x => UInt8.ofNat x.toNat).toArray⟩ := by
    intro l
    induction l with
    | nil => intro s; simp
    | cons x l ih => intro s; simp only [List.foldl_cons]; rw [ih]; simp [ByteArray.push]
  rw [hf]
  have he0 : ByteArray.empty.data = #[] := rfl
  rw [he0]
  simp

theorem below_of_regrown {w w' : World} (h : ∃ p : Regrown, w' = Sort.grow (redrawn w p.d) p.os) : Below w.heap.size w w' := by
  obtain ⟨p, rfl⟩ := h
  exact below_regrown w p.d p.os
/-- Contracts inside a region that draws its order, the world known up to 'Below'. -/
theorem regL {P : Program} {f : FuncId} {args : Array Value} {w : World} {d : Nat} {os : Array Obj} {v : Value} (h : Calls P f args (Sort.grow (redrawn w d) os) fun e w' => e = .returned v ∧ Sort.grow (redrawn w d) os = w') :
    Calls P f args (Sort.grow (redrawn w d) os) fun e w'' => e = .returned v ∧ ∃ p : Regrown, w'' = Sort.grow (redrawn w p.d) p.os := h.mono fun _ _ ⟨he, hb⟩ => ⟨he, ⟨d, os⟩, hb.symm⟩
theorem regD {P : Program} {f : FuncId} {args : Array Value} {w : World} {d : Nat} {os : Array Obj} {v : Value} (h : Calls P f args (Sort.grow (redrawn w d) os) fun e w' => e = .returned v ∧ ∃ n, w' = (Sort.grow (redrawn w d) os).drewN n) :
    Calls P f args (Sort.grow (redrawn w d) os) fun e w'' => e = .returned v ∧ ∃ p : Regrown, w'' = Sort.grow (redrawn w p.d) p.os := h.mono fun _ _ ⟨he, n, hb⟩ => ⟨he, ⟨d + n, os⟩, hb⟩
end Go.Proofs.YtnjbbkocobegiaaDoor
