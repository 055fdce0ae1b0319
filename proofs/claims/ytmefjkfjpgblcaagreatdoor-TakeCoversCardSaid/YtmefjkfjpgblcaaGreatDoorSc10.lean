/- Texts packed: RefD, EvX, EvN, EvT, EvE, TpS, EvL, EvM, PtS, PtA. -/
import Derived.Test.YtmefjkfjpgblcaaGreatDoorRows
import Derived.Test.YtmefjkfjpgblcaaGreatDoorSc09
import Derived.Test.YtmefjkfjpgblcaaGreatDoorSc08
import Derived.Test.YtmefjkfjpgblcaaGreatDoorSc02
import Derived.Test.YtmefjkfjpgblcaaGreatDoorSc01
import Derived.Lib.ItoaLen
import Derived.Test.YtmefjkfjpgblcaaGreatDoorSc03
import Derived.BigQuiet
import Derived.Deep.QuietTactic
import Derived.Deep.RegionHeld3
import Derived.Test.YtmefjkfjpgblcaaGreatDoorSc05
/- The reference's look-up of a roll, and its Sync. -/
namespace Go.Proofs.YtmefjkfjpgblcaaGreatDoor
set_option linter.unusedVariables false
open Go.RowKit

theorem findIdx_congr {α : Type} {p q : α → Bool} {l : List α} (h : ∀ x ∈ l, p x = q x) : l.findIdx? p = l.findIdx? q := by
  induction l with
  | nil => rfl
  | cons y l ih => rw [List.findIdx?_cons, List.findIdx?_cons, h y (by simp), ih (fun x hx => h x (by simp [hx]))]

set_option maxHeartbeats 400000 in
theorem rollOfR1_p (s : ByteArray) (b : Nat) (w : World) (h : w.cell? ⟨b, 0, none⟩ = some (.string s)) (hlt : b < w.heap.size) :
    PredC Tryz.prog 240 #[.pointer (some ⟨b, 0, none⟩)] Roll.val (fun y => decide (y.name = s) && !s.toList.isEmpty) w := by
  refine ⟨fun _ _ => by kernel_rfl, fun x W hb => ?_⟩
  have hc := cellC h hb hlt
  have hs := hb.size
  have hl : b < W.heap.size := by omega
  clear h hb hlt hs
  show Calls Tryz.prog _ #[.agg #[.string x.name, .int .i64 x.rate, .int .i64 x.start, .int .i64 x.long, .int .i64 x.drift], .pointer (some ⟨b, 0, none⟩)] W _
  cases he : (x.name.toList == s.toList)
  all_goals
    have HE := Lib.hid (show decide (x.name = s) = _ from (beqS _ _).symm.trans he)
    go_enter Tryz.func240, Tryz.ntmps240
    go_wp2
    go_ret
    exact ⟨ret_bool (by rw [HE.out]; rfl), (Below.refl _ _).alloc (Nat.le_refl _) _⟩

theorem rollIdx_ref {l : List Roll} (h : ∀ r ∈ l, rollNameB r.name = true) (s : ByteArray) : l.findIdx? (fun y => decide (y.name = s) && !s.toList.isEmpty) = rollIdx l s := by
  refine findIdx_congr fun x hx => ?_
  have h1 := h x hx
  by_cases hs : x.name = s
  · subst hs
    have : x.name.toList.isEmpty = false := by
      rw [ByteArray.toList_eq]
      simp only [rollNameB, Bool.and_eq_true, decide_eq_true_eq] at h1
      cases hn : x.name.data.toList with
      | nil =>
        have : x.name.size = 0 := by show x.name.data.size = 0; rw [← Array.length_toList, hn]; rfl
        omega
      | cons y t => rfl
    simp [this]
  · simp [hs]

set_option maxHeartbeats 400000 in
theorem rollOfR_c (A : Option Addr) (l : List Roll) (c lo : Nat) (s : ByteArray) (w : World) (hr : Rs w lo w.heap.size 5 Roll.cells A l) (hlen : l.length ≤ 140737488355328) (hnm : ∀ r ∈ l, rollNameB r.name = true) :
    Calls Tryz.prog 175 #[.slice A l.length c, .string s] w fun e w' =>
      e = .returned (.tuple #[.agg #[.string (rollGet l s).name, .int .i64 (rollGet l s).rate, .int .i64 (rollGet l s).start, .int .i64 (rollGet l s).long, .int .i64 (rollGet l s).drift], .bool (rollHas l s)]) ∧ Below w.heap.size w w' := by
  have HR := Lib.hid hr; clear hr
  have HE := rollIdx_ref hnm s
  have HEE := Lib.hid HE
  clear hnm
  cases hi : rollIdx l s with
  | none =>
    have H0 := Lib.hid (show idxV (l.findIdx? fun y => decide (y.name = s) && !s.toList.isEmpty) = -1 by rw [HE, hi]; rfl)
    have H1 := Lib.hid (show rollGet l s = Roll.zero by simp [rollGet, hi])
    have H2 := Lib.hid (show rollHas l s = false by simp [rollHas, hi])
    clear hi HE
    go_enter Tryz.func175, Tryz.ntmps175
    go_wp2_with fail
    refine (idxRoll_c A l c 240 lo #[.pointer (some ⟨w.heap.size, 0, none⟩)] (fun y => decide (y.name = s) && !s.toList.isEmpty) _
      (((HR.out.alloc (Nat.le_refl _) _).alloc (by simp) _).more (Nat.le_refl _) (by simp; omega)) hlen (rollOfR1_p s w.heap.size _ (by go_simp) (by simp; omega))).mono ?_
    rintro e w' ⟨rfl, hb⟩
    rw [H0.out]
    have HB := Lib.hid ((((Below.refl w.heap.size w).alloc (Nat.le_refl _) _).alloc (by simp) _).trans (hb.mono (by simp; omega)))
    obtain ⟨hc, hf⟩ := bcell hb
    clear hb
    go_wp2
    refine bodyPost_ret (v := .tuple #[.agg #[.string ⟨#[]⟩, .int .i64 0, .int .i64 0, .int .i64 0, .int .i64 0], .bool false]) (by simp [results, Tryz.results175, go_sem, hc]) rfl ⟨?_, ?_⟩
    · rw [H1.out, H2.out]; rfl
    · repeat' refine Below.setCell ?_ (by simp) _
      exact HB.out
  | some k =>
    have hk := rollIdx_lt hi
    have H0 := Lib.hid (show idxV (l.findIdx? fun y => decide (y.name = s) && !s.toList.isEmpty) = (k : Int) by rw [HE, hi]; rfl)
    have H1 := Lib.hid (show rollGet l s = l[k] by simp [rollGet, hi, hk])
    have H2 := Lib.hid (show rollHas l s = true by simp [rollHas, hi])
    clear hi HE
    go_enter Tryz.func175, Tryz.ntmps175
    go_wp2_with fail
    refine (idxRoll_c A l c 240 lo #[.pointer (some ⟨w.heap.size, 0, none⟩)] (fun y => decide (y.name = s) && !s.toList.isEmpty) _
      (((HR.out.alloc (Nat.le_refl _) _).alloc (by simp) _).more (Nat.le_refl _) (by simp; omega)) hlen (rollOfR1_p s w.heap.size _ (by go_simp) (by simp; omega))).mono ?_
    rintro e w' ⟨rfl, hb⟩
    rw [H0.out]
    obtain ⟨b, off, rfl, _, hbl, hc⟩ := (((HR.out.alloc (Nat.le_refl _) _).alloc (by simp) _).below hb (by simp; omega)).at_ hk
    have c0 : w'.cell? ⟨b, off + k * 5, none⟩ = _ := hc 0 _ rfl
    have c1 := hc 1 _ rfl
    have c2 := hc 2 _ rfl
    have c3 := hc 3 _ rfl
    have c4 := hc 4 _ rfl
    clear hc
    have HB := Lib.hid ((((Below.refl w.heap.size w).alloc (Nat.le_refl _) _).alloc (by simp) _).trans (hb.mono (by simp; omega)))
    obtain ⟨hc, hf⟩ := bcell hb
    clear hb
    go_wp2
    refine bodyPost_ret (v := .tuple #[.agg #[.string l[k].name, .int .i64 l[k].rate, .int .i64 l[k].start, .int .i64 l[k].long, .int .i64 l[k].drift], .bool true]) (by simp [results, Tryz.results175, go_sem, hc]) rfl ⟨?_, ?_⟩
    · rw [H1.out, H2.out]
    · repeat' refine Below.setCell ?_ (by simp) _
      exact HB.out

end Go.Proofs.YtmefjkfjpgblcaaGreatDoor

/- The reference's error of events, walked. -/
namespace Go.Proofs.YtmefjkfjpgblcaaGreatDoor
set_option linter.unusedVariables false
open Go.RowKit

end Go.Proofs.YtmefjkfjpgblcaaGreatDoor

/- The program's numbers of three figures; the reference's joined lines. -/
namespace Go.Proofs.YtmefjkfjpgblcaaGreatDoor
set_option linter.unusedVariables false
open Go.RowKit

end Go.Proofs.YtmefjkfjpgblcaaGreatDoor

/- Texts of events: their sizes. No program in sight. -/
namespace Go.Proofs.YtmefjkfjpgblcaaGreatDoor
set_option linter.unusedVariables false
open Go.RowKit

end Go.Proofs.YtmefjkfjpgblcaaGreatDoor

/- Lists of events compared; lines cut into words. -/
namespace Go.Proofs.YtmefjkfjpgblcaaGreatDoor
set_option linter.unusedVariables false
open Go.RowKit

instance : DecidableEq Ev := fun a b => decidable_of_iff (a.eqB b = true) Ev.eqB_iff
/-- The library's word for the longest text that its search by heart serves lies where it was laid. -/
def MaxLaid (w : World) : Prop := (∃ m, w.cell? ⟨2, 0, none⟩ = some (.int .i64 m)) ∧ 2 < w.heap.size
theorem max_below {w w' : World} {B : Nat} (h : MaxLaid w) (hb : Below B w w') (hB : w.heap.size ≤ B) : MaxLaid w' := by
  obtain ⟨⟨m, hm⟩, hl⟩ := h
  exact ⟨⟨m, (hb.cell (p := ⟨2, 0, none⟩) (by show 2 < B; omega)).trans hm⟩, Nat.lt_of_lt_of_le hl hb.size⟩
end Go.Proofs.YtmefjkfjpgblcaaGreatDoor

/- Takes as a text, in plain words. No program in sight. -/
namespace Go.Proofs.YtmefjkfjpgblcaaGreatDoor
set_option linter.unusedVariables false
open Go.RowKit

end Go.Proofs.YtmefjkfjpgblcaaGreatDoor

/- The program's reader of an event's line, walked. -/
namespace Go.Proofs.YtmefjkfjpgblcaaGreatDoor
set_option linter.unusedVariables false
open Go.RowKit Go.Sort

end Go.Proofs.YtmefjkfjpgblcaaGreatDoor

/- The program's reader of events, walked. -/
namespace Go.Proofs.YtmefjkfjpgblcaaGreatDoor
set_option linter.unusedVariables false
open Go.RowKit Go.Sort

section
variable {l : List Roll} {t : ByteArray}
end
end Go.Proofs.YtmefjkfjpgblcaaGreatDoor

/- Takes read from a text, in plain words. No program in sight. -/
namespace Go.Proofs.YtmefjkfjpgblcaaGreatDoor
set_option linter.unusedVariables false
open Go.RowKit

end Go.Proofs.YtmefjkfjpgblcaaGreatDoor

/- The program's readers of the lines of takes, walked. -/
namespace Go.Proofs.YtmefjkfjpgblcaaGreatDoor
set_option linter.unusedVariables false
open Go.RowKit Go.Sort

def Cov.val (x : Cov) : Value := .agg #[.int .i64 x.para, .int .i64 x.tin, .int .i64 x.tout, .bool x.on]
end Go.Proofs.YtmefjkfjpgblcaaGreatDoor

