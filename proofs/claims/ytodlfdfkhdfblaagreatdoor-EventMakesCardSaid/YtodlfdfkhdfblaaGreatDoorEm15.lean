/- Texts packed: GenH, RefD. -/
import Derived.Test.YtodlfdfkhdfblaaGreatDoorEm01
import Derived.Test.YtodlfdfkhdfblaaGreatDoorEm04
import Derived.Test.YtodlfdfkhdfblaaGreatDoorEm02
import Derived.Test.YtodlfdfkhdfblaaGreatDoorEm14
import Derived.Deep.RegionHeld3
import Derived.Deep.DeepCutAuto
import Derived.Test.YtodlfdfkhdfblaaGreatDoorRows
/- The generator's events, and right rolls. -/
namespace Go.Proofs.YtodlfdfkhdfblaaGreatDoor
set_option linter.unusedVariables false
open Go.RowKit Go.Sort

theorem isRolls.turn {sb s2 : Nat} {v : Value} {w w' : World} (h : isRolls sb v w) (hg : w.grownBy w' (some sb)) : isRolls sb v w' := by
  obtain ⟨B, a, b, c, rfl, h1, h2, h3, h4⟩ := h
  exact ⟨B, a, b, c, rfl, h1, Nat.lt_of_lt_of_le h2 hg.size, h3.grown hg (by omega), h4⟩
def fineA : Roll := ⟨⟨#[65, 49]⟩, 1, 0, 3000, 0⟩
def fineB : Roll := ⟨⟨#[65, 50]⟩, 1, 0, 3000, 0⟩
def fineC : Roll := ⟨⟨#[83, 49]⟩, 4, 0, 100000, 0⟩
set_option maxHeartbeats 1000000 in
theorem rightRolls_c (sb : Nat) (k : Int) (w : World) (hs : Str w sb k) (hk : k ≤ 4000000000000000000) :
    Calls Tryz.prog 56 #[.pointer (some ⟨sb, 0, none⟩)] w (Took sb k 20 (isRolls sb) w) := by
  have HS := Lib.hid hs; clear hs
  have hlt := HS.out.lt
  go_enter Tryz.func56, Tryz.ntmps56
  go_wp2_with fail
  refine (Rolls_c sb k _ HS.out hk).mono ?_
  rintro e w1 ⟨v1, k1, rfl, ⟨B, a, b, c, rfl, h1, h2, h3, ha, hb, hc⟩, hk1, hs1, hg1⟩
  have HR := Lib.hid h3
  have HA := Lib.hid (And.intro ha (And.intro hb hc))
  have S1 := Lib.hid hs1
  have G1 := Lib.hid hg1
  have hz1 := hg1.size
  clear hs1 hg1 h3 ha hb hc
  have hcc := RollsFault_c (some ⟨B, 0, none⟩) [a, b, c] 3 0 w1 (HR.out.rs 0 w1.heap.size (by omega) h2) (by simp) (by omega) (fun r hr => by
    obtain ⟨x, y, z⟩ := HA.out
    simp at hr
    rcases hr with rfl | rfl | rfl
    · have := x.1; omega
    · have := y.1; omega
    · have := z.1; omega)
  have HC := Lib.hid hcc
  clear hcc
  go_wp2_with fail
  refine HC.out.mono ?_
  rintro e w2 ⟨rfl, hb2⟩
  have hz2 := hb2.size
  have S2 := Lib.hid (S1.out.below hb2)
  have G2 := Lib.hid (gBelow G1.out hb2)
  have R2 := Lib.hid (HR.out.keep (hb2.block B h2))
  clear hb2 HC
  by_cases h0 : rollsFault [a, b, c] = 0
  · rw [h0]
    clear h0
    go_wp2
    go_ret
    exact ⟨_, k1, rfl, ⟨B, a, b, c, rfl, h1, by omega, R2.out, HA.out⟩, by omega, S2.out, G2.out⟩
  · have hne : (rollsFault [a, b, c] != 0) = true := by rw [bne_iff_ne]; exact h0
    clear h0
    go_wp2
    go_ret
    exact ⟨_, k1, rfl, ⟨w2.heap.size, fineA, fineB, fineC, rfl, by omega, by simp, heap_alloc_new w2 _, bdMk (by decide) (by omega) (by omega) (by omega) (by omega), bdMk (by decide) (by omega) (by omega) (by omega) (by omega), bdMk (by decide) (by omega) (by omega) (by omega) (by omega)⟩, by omega, S2.out.alloc _, gAlloc G2.out _⟩
set_option maxHeartbeats 400000 in
theorem RightRolls_c (sb : Nat) (k : Int) (w : World) (hs : Str w sb k) (hk : k ≤ 4000000000000000000) :
    Calls Tryz.prog 14 #[.pointer (some ⟨sb, 0, none⟩)] w (Took sb k 20 (isRolls sb) w) := by
  have HS := Lib.hid hs; clear hs
  go_enter Tryz.func14, Tryz.ntmps14
  go_wp2_with fail
  refine (rightRolls_c sb k _ HS.out hk).mono ?_
  rintro e w1 ⟨v1, k1, rfl, hv, hk1, hs1, hg1⟩
  have HV := Lib.hid hv
  have S1 := Lib.hid hs1
  have G1 := Lib.hid hg1
  clear hv hs1 hg1
  go_wp2
  go_ret
  exact ⟨_, k1, rfl, HV.out, hk1, S1.out, G1.out⟩
end Go.Proofs.YtodlfdfkhdfblaaGreatDoor

/- The reference's look-up of a roll, and its Sync. -/
namespace Go.Proofs.YtodlfdfkhdfblaaGreatDoor
set_option linter.unusedVariables false
open Go.RowKit

theorem findIdx_congr {α : Type} {p q : α → Bool} {l : List α} (h : ∀ x ∈ l, p x = q x) : l.findIdx? p = l.findIdx? q := by
  induction l with
  | nil => rfl
  | cons y l ih => rw [List.findIdx?_cons, List.findIdx?_cons, h y (by simp), ih (fun x hx => h x (by simp [hx]))]

set_option maxHeartbeats 400000 in
theorem rollOfR1_p (s : ByteArray) (b : Nat) (w : World) (h : w.cell? ⟨b, 0, none⟩ = some (.string s)) (hlt : b < w.heap.size) :
    PredC Tryz.prog 128 #[.pointer (some ⟨b, 0, none⟩)] Roll.val (fun y => decide (y.name = s) && !s.toList.isEmpty) w := by
  refine ⟨fun _ _ => by kernel_rfl, fun x W hb => ?_⟩
  have hc := cellC h hb hlt
  have hs := hb.size
  have hl : b < W.heap.size := by omega
  clear h hb hlt hs
  show Calls Tryz.prog _ #[.agg #[.string x.name, .int .i64 x.rate, .int .i64 x.start, .int .i64 x.long, .int .i64 x.drift], .pointer (some ⟨b, 0, none⟩)] W _
  cases he : (x.name.toList == s.toList)
  all_goals
    have HE := Lib.hid (show decide (x.name = s) = _ from (beqS _ _).symm.trans he)
    go_enter Tryz.func128, Tryz.ntmps128
    go_wp2
    go_ret
    exact ⟨ret_bool (by rw [HE.out]; rfl), (Below.refl _ _).alloc (Nat.le_refl _) _⟩

theorem rollIdx_ref {l : List Roll} (h : ∀ r ∈ l, rollNameB r.name = true) (s : ByteArray) : l.findIdx? (fun y => decide (y.name = s) && !s.toList.isEmpty) = rollIdx l s := by
  refine findIdx_congr fun x hx => ?_
  have h1 := h x hx
  by_cases hs : x.name = s
  · subst hs
    have : x.name.toList.isEmpty = false := by
      rw [ByteArray.toList_eq]
      simp only [rollNameB, Bool.and_eq_true, decide_eq_true_eq] at h1
      cases hn : x.name.data.toList with
      | nil =>
        have : x.name.size = 0 := by show x.name.data.size = 0; rw [← Array.length_toList, hn]; rfl
        omega
      | cons y t => rfl
    simp [this]
  · simp [hs]

set_option maxHeartbeats 400000 in
theorem rollOfR_c (A : Option Addr) (l : List Roll) (c lo : Nat) (s : ByteArray) (w : World) (hr : Rs w lo w.heap.size 5 Roll.cells A l) (hlen : l.length ≤ 140737488355328) (hnm : ∀ r ∈ l, rollNameB r.name = true) :
    Calls Tryz.prog 55 #[.slice A l.length c, .string s] w fun e w' =>
      e = .returned (.tuple #[.agg #[.string (rollGet l s).name, .int .i64 (rollGet l s).rate, .int .i64 (rollGet l s).start, .int .i64 (rollGet l s).long, .int .i64 (rollGet l s).drift], .bool (rollHas l s)]) ∧ Below w.heap.size w w' := by
  have HR := Lib.hid hr; clear hr
  have HE := rollIdx_ref hnm s
  have HEE := Lib.hid HE
  clear hnm
  cases hi : rollIdx l s with
  | none =>
    have H0 := Lib.hid (show idxV (l.findIdx? fun y => decide (y.name = s) && !s.toList.isEmpty) = -1 by rw [HE, hi]; rfl)
    have H1 := Lib.hid (show rollGet l s = Roll.zero by simp [rollGet, hi])
    have H2 := Lib.hid (show rollHas l s = false by simp [rollHas, hi])
    clear hi HE
    go_enter Tryz.func55, Tryz.ntmps55
    go_wp2_with fail
    refine (idxRoll_c A l c 128 lo #[.pointer (some ⟨w.heap.size, 0, none⟩)] (fun y => decide (y.name = s) && !s.toList.isEmpty) _
      (((HR.out.alloc (Nat.le_refl _) _).alloc (by simp) _).more (Nat.le_refl _) (by simp; omega)) hlen (rollOfR1_p s w.heap.size _ (by go_simp) (by simp; omega))).mono ?_
    rintro e w' ⟨rfl, hb⟩
    rw [H0.out]
    have HB := Lib.hid ((((Below.refl w.heap.size w).alloc (Nat.le_refl _) _).alloc (by simp) _).trans (hb.mono (by simp; omega)))
    obtain ⟨hc, hf⟩ := bcell hb
    clear hb
    go_wp2
    refine bodyPost_ret (v := .tuple #[.agg #[.string ⟨#[]⟩, .int .i64 0, .int .i64 0, .int .i64 0, .int .i64 0], .bool false]) (by simp [results, Tryz.results55, go_sem, hc]) rfl ⟨?_, ?_⟩
    · rw [H1.out, H2.out]; rfl
    · repeat' refine Below.setCell ?_ (by simp) _
      exact HB.out
  | some k =>
    have hk := rollIdx_lt hi
    have H0 := Lib.hid (show idxV (l.findIdx? fun y => decide (y.name = s) && !s.toList.isEmpty) = (k : Int) by rw [HE, hi]; rfl)
    have H1 := Lib.hid (show rollGet l s = l[k] by simp [rollGet, hi, hk])
    have H2 := Lib.hid (show rollHas l s = true by simp [rollHas, hi])
    clear hi HE
    go_enter Tryz.func55, Tryz.ntmps55
    go_wp2_with fail
    refine (idxRoll_c A l c 128 lo #[.pointer (some ⟨w.heap.size, 0, none⟩)] (fun y => decide (y.name = s) && !s.toList.isEmpty) _
      (((HR.out.alloc (Nat.le_refl _) _).alloc (by simp) _).more (Nat.le_refl _) (by simp; omega)) hlen (rollOfR1_p s w.heap.size _ (by go_simp) (by simp; omega))).mono ?_
    rintro e w' ⟨rfl, hb⟩
    rw [H0.out]
    obtain ⟨b, off, rfl, _, hbl, hc⟩ := (((HR.out.alloc (Nat.le_refl _) _).alloc (by simp) _).below hb (by simp; omega)).at_ hk
    have c0 : w'.cell? ⟨b, off + k * 5, none⟩ = _ := hc 0 _ rfl
    have c1 := hc 1 _ rfl
    have c2 := hc 2 _ rfl
    have c3 := hc 3 _ rfl
    have c4 := hc 4 _ rfl
    clear hc
    have HB := Lib.hid ((((Below.refl w.heap.size w).alloc (Nat.le_refl _) _).alloc (by simp) _).trans (hb.mono (by simp; omega)))
    obtain ⟨hc, hf⟩ := bcell hb
    clear hb
    go_wp2
    refine bodyPost_ret (v := .tuple #[.agg #[.string l[k].name, .int .i64 l[k].rate, .int .i64 l[k].start, .int .i64 l[k].long, .int .i64 l[k].drift], .bool true]) (by simp [results, Tryz.results55, go_sem, hc]) rfl ⟨?_, ?_⟩
    · rw [H1.out, H2.out]
    · repeat' refine Below.setCell ?_ (by simp) _
      exact HB.out

def insB (start last x : Int) : Bool := decide (start ≤ x) && decide (x ≤ last)
end Go.Proofs.YtodlfdfkhdfblaaGreatDoor

