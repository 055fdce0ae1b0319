/- Texts packed: WpA. -/
import Derived.Test.YtnemcnpilngblaaDoorSc28
import Derived.Test.YtnemcnpilngblaaDoorSc26
import Derived.Test.YtnemcnpilngblaaDoorSc11
/- script.Wrap and R.Plain, walked. -/
namespace Go.Proofs.YtnemcnpilngblaaDoor
set_option linter.unusedVariables false
open Go.RowKit

theorem own_frm {α : Type} {R : Rep α} {w : World} {b lo : Nat} {e : TypeId} {l : List α} {v : Value} (h : Own R w b lo e l v) : ∃ A n c, v = .slice A n c := by
  rcases h.form with ⟨h, _⟩ | ⟨g, cap, h, _⟩
  · exact ⟨_, _, _, h⟩
  · exact ⟨_, _, _, h⟩
def swE (s : ByteArray) (wd : Int) : Int := if plainB s = false then 3 else if wd < 10 ∨ 200 < wd then 1 else 0
def SwP (s : ByteArray) (wd : Int) (w : World) (e : Ending) (w' : World) : Prop :=
  ∃ v, e = .returned (.tuple #[v, .int .i64 (swE s wd)]) ∧ Below w.heap.size w w' ∧ ((¬ swE s wd = 0 ∧ v = .slice none 0 0) ∨ (swE s wd = 0 ∧ Own strR w' w.heap.size w.heap.size 9 (wrapT s wd.toNat) v))
theorem SwP.no {s : ByteArray} {wd q : Int} {w w' : World} (h : swE s wd = q) (h0 : ¬ q = 0) (hb : Below w.heap.size w w') : SwP s wd w (.returned (.tuple #[.slice none 0 0, .int .i64 q])) w' := ⟨_, by rw [h], hb, .inl ⟨by rw [h]; exact h0, rfl⟩⟩
theorem SwP.yes {s : ByteArray} {wd : Int} {w w' : World} {v : Value} (h : swE s wd = 0) (hb : Below w.heap.size w w') (ho : Own strR w' w.heap.size w.heap.size 9 (wrapT s wd.toNat) v) : SwP s wd w (.returned (.tuple #[v, .int .i64 0])) w' := ⟨_, by rw [h], hb, .inr ⟨h, ho⟩⟩
theorem ScrWrap_c (s : ByteArray) (wd : Int) (w : World) (hs : s.size ≤ 1048576) (hm : MaxLaid w) : Calls Tryd.prog 4 #[.string s, .int .i64 wd] w (SwP s wd w) := by
  have HPL := Lib.hid (Plain_c s w (by omega) hm)
  clear hm
  cases hp : plainB s with
  | false =>
    have HE := Lib.hid (show swE s wd = 3 from if_pos hp)
    rw [hp] at HPL
    clear hp
    go_enter Tryd.func4, Tryd.ntmps4
    go_wp2_with fail
    refine HPL.out.mono ?_
    rintro e w1 ⟨rfl, rfl⟩
    go_wp2
    go_ret2
    exact SwP.no HE.out (by decide) (Below.refl _ _)
  | true =>
    have hE : swE s wd = if wd < 10 ∨ 200 < wd then 1 else 0 := if_neg (by rw [hp]; decide)
    rw [hp] at HPL
    clear hp
    by_cases h1 : wd < 10
    · have HE := Lib.hid (hE.trans (if_pos (.inl h1)))
      clear hE
      go_enter Tryd.func4, Tryd.ntmps4
      go_wp2_with fail
      refine HPL.out.mono ?_
      rintro e w1 ⟨rfl, rfl⟩
      go_wp2
      go_ret2
      exact SwP.no HE.out (by decide) (Below.refl _ _)
    by_cases h2 : 200 < wd
    · have HE := Lib.hid (hE.trans (if_pos (.inr h2)))
      have h1' : 10 ≤ wd := by omega
      clear hE h1
      go_enter Tryd.func4, Tryd.ntmps4
      go_wp2_with fail
      refine HPL.out.mono ?_
      rintro e w1 ⟨rfl, rfl⟩
      go_wp2
      go_ret2
      exact SwP.no HE.out (by decide) (Below.refl _ _)
    have HE := Lib.hid (hE.trans (if_neg (by omega)))
    obtain ⟨n, rfl⟩ : ∃ n : Nat, wd = (n : Int) := ⟨wd.toNat, by omega⟩
    have h1' : (10 : Int) ≤ n := by omega
    have h2' : (n : Int) ≤ 200 := by omega
    clear hE h1 h2
    go_enter Tryd.func4, Tryd.ntmps4
    go_wp2_with fail
    refine HPL.out.mono ?_
    rintro e w1 ⟨rfl, rfl⟩
    go_wp2_with fail
    refine (Wrap_c s n _ hs (by omega) (by omega)).mono ?_
    rintro e w2 ⟨v, rfl, hb, ho⟩
    go_wp2
    go_ret2
    exact SwP.yes HE.out hb ho
theorem PlainR_c (s : ByteArray) (w : World) (hs : s.size ≤ 4000000000) (hsp : SpLaid w) : Calls Tryd.prog 5 #[.string s] w fun e w' => e = .returned (.bool (plainB s)) ∧ Below w.heap.size w w' := by
  have H := Lib.hid (plainR_c s w hs hsp)
  clear hsp
  go_enter Tryd.func5, Tryd.ntmps5
  go_wp2_with fail
  refine H.out.mono ?_
  rintro e w1 ⟨rfl, hb⟩
  go_wp2
  go_ret
  exact ⟨rfl, hb⟩
theorem plain_pr {s : ByteArray} (h : plainB s = true) : ∀ x ∈ s.data.toList, prB x = true := by
  have h2 : (allB prB s && plainL s.data.toList) = true := h
  rw [Bool.and_eq_true] at h2
  have h3 := h2.1
  unfold allB at h3
  rw [List.all_eq_true] at h3
  exact h3
end Go.Proofs.YtnemcnpilngblaaDoor

