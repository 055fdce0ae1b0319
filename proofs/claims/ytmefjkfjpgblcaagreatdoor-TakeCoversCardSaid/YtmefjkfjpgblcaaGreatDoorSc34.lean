/- Texts packed: TcE, TcN. -/
import Derived.Test.YtmefjkfjpgblcaaGreatDoorSc22
import Derived.Test.YtmefjkfjpgblcaaGreatDoorSc33
import Derived.Test.YtmefjkfjpgblcaaGreatDoorSc08
import Derived.Test.YtmefjkfjpgblcaaGreatDoorSc05
import Derived.Test.YtmefjkfjpgblcaaGreatDoorSc07
import Derived.Test.YtmefjkfjpgblcaaGreatDoorSc01
import Derived.Test.YtmefjkfjpgblcaaGreatDoorSc02
/- take.CheckTakes: what its round needs. No walk here. -/
namespace Go.Proofs.YtmefjkfjpgblcaaGreatDoor
set_option linter.unusedVariables false
open Go.RowKit Go.Sort

theorem oper_lookup {P : Program} {κ : Type} [DecidableEq κ] {mk : κ → Value} {w : World} {o : Oper} {a : Act} {K' : Act → World → Prop} {Q : Exit → Act → World → Prop}
    (mo xo : Operand) (t : TypeId) (ok : Bool) (hop : o.op = Op.lookup t mo xo ok) (k e : TypeId) (K : PlainKey P k mk) (ht : P.underlying t = some (.map k e)) (z : Value) (hz : (zeroValue e).run P w = .ok z w)
    (b : Nat) (m : List (κ × Value)) (hm : a.eval mo = .map (some b)) (h : MapL w b mk m) (x : κ) (hx : a.eval xo = mk x)
    (hK : K' (a.put o.dst (if ok then .tuple #[(lk m x).getD z, .bool (lk m x).isSome] else (lk m x).getD z)) w) :
    Oper.wp P o a w K' Q := by
  have hrun := run_lookup_plain K ht hz h x ok
  unfold Oper.wp
  simp only [execOp, hop, hm, hx, hrun, Sem.run_bind, Result.andThen]
  exact hK
section
variable {κ α : Type} [DecidableEq κ] {n : Nat} {enc : α → List Value} {hn : ∀ x, (enc x).length = n} {mk : κ → Value} {e : TypeId} {inn : κ → List α} {w wx wy : World} {mb : Nat} {m : List (κ × Value)} {P : List Pb}
theorem MN.map_grown (h : MN (Rep.flat n enc hn) mk e inn w mb m P wx) (k : κ) (hg : wx.grownBy wy ((lk m k).getD (.slice none 0 0)).ownBlock) : MapL wy mb mk m :=
  h.map.keep (hg.block mb h.map.lt (fun q => by
    cases hk : lk m k with
    | none => rw [hk] at q; cases q
    | some v => rw [hk] at q; exact ((h.row k v hk).2 mb q.symm).1 rfl))
theorem MN.prv_grown (h : MN (Rep.flat n enc hn) mk e inn w mb m P wx) (k : κ) (hg : wx.grownBy wy ((lk m k).getD (.slice none 0 0)).ownBlock) {b : Nat} {f : Option Obj → Prop} (hp : (b, f) ∈ P) : wy.heap[b]? = wx.heap[b]? :=
  hg.block b (h.prv _ hp).2.2.1 (fun q => by
    cases hk : lk m k with
    | none => rw [hk] at q; cases q
    | some v => rw [hk] at q; exact (h.row k v hk).2 b q.symm |>.2 _ hp rfl)
theorem MN.start (hb : Below w.heap.size w wx) (hm : MapL wx mb mk []) (hlo : w.heap.size ≤ mb) (hi : ∀ k, inn k = []) (hp : ∀ p ∈ P, p.2 wx.heap[p.1]? ∧ w.heap.size ≤ p.1 ∧ p.1 < wx.heap.size ∧ p.1 ≠ mb) : MN (Rep.flat n enc hn) mk e inn w mb [] P wx :=
  ⟨hb, hm, hlo, fun k v hk => (by cases hk), fun k _ => hi k, fun k k' v v' hk _ _ => (by cases hk), hp⟩
end
theorem wideSl : WideKey Tryz.prog 142 mkSl := wide_three (T0 := 9) (T1 := 9) (T2 := 3) (by kernel_rfl) (by kernel_rfl) (by kernel_rfl) (by kernel_rfl) (by kernel_rfl) (by kernel_rfl)
theorem undSl : Tryz.prog.underlying 138 = some (.map 142 4) := by kernel_rfl
theorem undWm : Tryz.prog.underlying 139 = some (.map 9 147) := by kernel_rfl
theorem undWs : Tryz.prog.underlying 147 = some (.slice 149) := by kernel_rfl
theorem zeroWs (w : World) : (zeroValue 147).run Tryz.prog w = .ok (.slice none 0 0) w := by kernel_rfl
theorem zeroIc (w : World) : (zeroValue 3).run Tryz.prog w = .ok (.int .i64 0) w := by kernel_rfl
/-- The cells of a take, of a slate, of a roll. -/
def tkCs (x : Tk) (v : Value) : Array Value := #[.string x.scene, .string x.setup, .int .i64 x.number, .string x.roll, .string x.sound, .int .i64 x.tin, .int .i64 x.tout, .bool x.good, v]
theorem tkCs_cells {W : World} {b : Nat} {x : Tk} {v : Value} {T : TypeId} (h : cellsP (tkCs x v) T W.heap[b]?) : W.cell? ⟨b, 0, none⟩ = some (.string x.scene) ∧ W.cell? ⟨b, 1, none⟩ = some (.string x.setup) ∧ W.cell? ⟨b, 2, none⟩ = some (.int .i64 x.number) ∧ W.cell? ⟨b, 3, none⟩ = some (.string x.roll) ∧ W.cell? ⟨b, 4, none⟩ = some (.string x.sound) ∧ W.cell? ⟨b, 5, none⟩ = some (.int .i64 x.tin) ∧ W.cell? ⟨b, 6, none⟩ = some (.int .i64 x.tout) ∧ W.cell? ⟨b, 7, none⟩ = some (.bool x.good) ∧ W.cell? ⟨b, 8, none⟩ = some v := by
  obtain ⟨y, _⟩ := str_cells h
  exact ⟨y 0, y 1, y 2, y 3, y 4, y 5, y 6, y 7, y 8⟩
def rlCs (r : Roll) : Array Value := #[.string r.name, .int .i64 r.rate, .int .i64 r.start, .int .i64 r.long, .int .i64 r.drift]
theorem rlCs_cells {W : World} {b : Nat} {r : Roll} {T : TypeId} (h : cellsP (rlCs r) T W.heap[b]?) : W.cell? ⟨b, 0, none⟩ = some (.string r.name) ∧ W.cell? ⟨b, 1, none⟩ = some (.int .i64 r.rate) ∧ W.cell? ⟨b, 2, none⟩ = some (.int .i64 r.start) ∧ W.cell? ⟨b, 3, none⟩ = some (.int .i64 r.long) ∧ W.cell? ⟨b, 4, none⟩ = some (.int .i64 r.drift) := by
  obtain ⟨y, _⟩ := str_cells h
  exact ⟨y 0, y 1, y 2, y 3, y 4⟩
theorem rnd {a b c q : Int} (h : a = if ¬ b = 0 then b else c) (hb : b = q) (hq : ¬ q = 0) : a = q := by subst hb; rw [if_pos hq] at h; exact h
theorem rnd0 {a b c : Int} (h : a = if ¬ b = 0 then b else c) (hb : b = 0) : a = c := by subst hb; rw [if_neg (fun h => h rfl)] at h; exact h
def CkTP (x : Script) (rl : List Roll) (tl : List Tk) (w : World) (e : Ending) (w' : World) : Prop := e = .returned (.int .i64 (tksChk x rl tl)) ∧ Below w.heap.size w w'
theorem CkTP.mk {x : Script} {rl : List Roll} {tl : List Tk} {q : Int} {w w' : World} (h : tksChk x rl tl = q) (hb : Below w.heap.size w w') : CkTP x rl tl w (.returned (.int .i64 q)) w' := ⟨by rw [h], hb⟩
theorem tksChk_1 {x : Script} {rl : List Roll} {tl : List Tk} (h : ¬ stE x = 0) : tksChk x rl tl = stE x := if_pos h
theorem tksChk_2 {x : Script} {rl : List Roll} {tl : List Tk} (h : stE x = 0) (h2 : ¬ rollsFault rl = 0) : tksChk x rl tl = rollsFault rl := by unfold tksChk; rw [if_neg (fun q => q h), if_pos h2]
theorem tksChk_3 {x : Script} {rl : List Roll} {tl : List Tk} (h : stE x = 0) (h2 : rollsFault rl = 0) (h3 : 3000 < tl.length) : tksChk x rl tl = 2 := by unfold tksChk; rw [if_neg (fun q => q h), if_neg (fun q => q h2), if_pos h3]
theorem tksChk_4 {x : Script} {rl : List Roll} {tl : List Tk} (h : stE x = 0) (h2 : rollsFault rl = 0) (h3 : ¬ 3000 < tl.length) : tksChk x rl tl = tcsE x.scenes rl [] tl := by unfold tksChk; rw [if_neg (fun q => q h), if_neg (fun q => q h2), if_neg h3]
theorem scnIdx_some {sc : List Scene} {s : ByteArray} {j : Nat} (h : scnIdx sc s = some j) : ∃ hj : j < sc.length, sc[j].no = s := by
  unfold scnIdx at h
  obtain ⟨hj, h1, _⟩ := List.findIdx?_eq_some_iff_getElem.1 h
  exact ⟨hj, of_decide_eq_true h1⟩
end Go.Proofs.YtmefjkfjpgblcaaGreatDoor

/- How many paragraphs the scene of a number has. -/
namespace Go.Proofs.YtmefjkfjpgblcaaGreatDoor
set_option linter.unusedVariables false
open Go.RowKit

def parN (sc : List Scene) (s : ByteArray) : Nat := ((scnIdx sc s).bind fun k => (sc[k]?).map fun x => x.paras.length).getD 0
theorem parN_at {sc : List Scene} {s : ByteArray} {j : Nat} (h : scnIdx sc s = some j) (hj : j < sc.length) : parN sc s = (sc[j]).paras.length := by
  unfold parN
  rw [h]
  simp [hj]
end Go.Proofs.YtmefjkfjpgblcaaGreatDoor

