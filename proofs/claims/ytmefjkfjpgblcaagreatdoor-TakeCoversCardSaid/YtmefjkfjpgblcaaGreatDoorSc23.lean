/- Texts packed: HdB, EqW, CgN, EqX, TmW, CopW, SdS, CutP. -/
import Derived.Test.YtmefjkfjpgblcaaGreatDoorSc15
import Derived.Test.YtmefjkfjpgblcaaGreatDoorSc13
import Derived.Test.YtmefjkfjpgblcaaGreatDoorSc02
import Derived.Test.YtmefjkfjpgblcaaGreatDoorSc04
import Derived.Test.YtmefjkfjpgblcaaGreatDoorSc01
import Derived.Test.YtmefjkfjpgblcaaGreatDoorSc19
import Derived.Deep.RegionWith
import Derived.Test.YtmefjkfjpgblcaaGreatDoorSc10
import Derived.Deep.QuietTactic
import Derived.BigQuiet
import Derived.Test.YtmefjkfjpgblcaaGreatDoorSc22
import Derived.Test.YtmefjkfjpgblcaaGreatDoorSc21
import Derived.Test.YtmefjkfjpgblcaaGreatDoorSc18
import Derived.Test.YtmefjkfjpgblcaaGreatDoorSc20
/- A heading read: the program's, walked. -/
namespace Go.Proofs.YtmefjkfjpgblcaaGreatDoor
set_option linter.unusedVariables false
open Go.RowKit Go.Sort

abbrev dumR : Rep Int := intR
/-- Private blocks of a call, and nothing below it turned. -/
abbrev PvG (w : World) (P : List (Nat × Array Value × TypeId)) (wx : World) : Prop := BO dumR 3 w [] (.slice none 0 0) P wx
theorem pvStart (w : World) : PvG w [] w := BO.start w
end Go.Proofs.YtmefjkfjpgblcaaGreatDoor

/- Lists of paragraphs, scenes, scripts compared. -/
namespace Go.Proofs.YtmefjkfjpgblcaaGreatDoor
set_option linter.unusedVariables false
open Go.RowKit

instance : DecidableEq Para := fun a b => decidable_of_iff (a.kind = b.kind ∧ a.text = b.text) (by cases a; cases b; simp)
instance : DecidableEq Scene := fun a b => decidable_of_iff (a.no = b.no ∧ a.place = b.place ∧ a.set = b.set ∧ a.time = b.time ∧ a.paras = b.paras) (by cases a; cases b; simp)
instance : DecidableEq Script := fun a b => decidable_of_iff (a.title = b.title ∧ a.scenes = b.scenes) (by cases a; cases b; simp)
theorem paraAt {w : World} {F : Nat → Prop} {l : List Para} {A : Option Addr} {n c : Nat} (h : Sli paraR w F l (.slice A n c)) (k : Nat) (hk : k < l.length) : ∃ b off, A = some ⟨b, off, none⟩ ∧ F b ∧ w.cell? ⟨b, off + k * 2, none⟩ = some (.int .i64 l[k].kind) ∧ w.cell? ⟨b, off + k * 2 + 1, none⟩ = some (.string l[k].text) := by
  obtain ⟨b, off, a, e, hb, hr, hc⟩ := h.at_ k hk
  have ha : a = (l[k]).cells := hr
  subst ha
  exact ⟨b, off, e, hb, hc 0 _ rfl, hc 1 _ rfl⟩
end Go.Proofs.YtmefjkfjpgblcaaGreatDoor

/- The paragraphs that need takes: the program's and the reference's list. -/
namespace Go.Proofs.YtmefjkfjpgblcaaGreatDoor
set_option linter.unusedVariables false
open Go.RowKit Go.Sort

set_option maxRecDepth 100000 in
set_option maxHeartbeats 1600000 in
theorem needing_c {F : Nat → Prop} (x : Scene) (A : Option Addr) (n c : Nat) (w : World) (hv : Sli paraR w F x.paras (.slice A n c)) (hF : ∀ b, F b → b < w.heap.size) (hn : x.paras.length = n) (hlen : n ≤ 1000000) :
    Calls Tryz.prog 104 #[.agg #[.string x.no, .int .i64 x.place, .string x.set, .int .i64 x.time, .slice A n c]] w fun e w' => ∃ v, e = .returned v ∧ Own intR w' w.heap.size w.heap.size 3 (needL x.paras) v ∧ Below w.heap.size w w' := by
  obtain ⟨i0, hi0, hz0, hz1, hz2⟩ := info_parts (show (Tryz.prog.info? 3).map (fun i => (i.zero, i.size, i.bytes)) = some (some (.int .i64 0), 1, 8) by kernel_rfl)
  have HV := Lib.hid hv
  have HF := Lib.hid hF
  have HN := Lib.hid hn
  have HNL := Lib.hid (show needL x.paras = needTo x.paras n by unfold needL; rw [hn])
  have HG0 := Lib.hid ((BO.start (R := intR) (e := 3) w).new #[.string x.no, .int .i64 x.place, .string x.set, .int .i64 x.time, .slice A n c] 119)
  clear hv hF hn
  go_enter Tryz.func104, Tryz.ntmps104
  go_upto_region 2 with (fail)
  have hXc := (HG0.out.cell (p := (w.heap.size, #[.string x.no, .int .i64 x.place, .string x.set, .int .i64 x.time, .slice A n c], 119)) (by simp)).1
  have x4 : (w.alloc (.cells #[.string x.no, .int .i64 x.place, .string x.set, .int .i64 x.time, .slice A n c] 119)).cell? ⟨w.heap.size, 4, none⟩ = some (.slice A n c) := hXc 4
  clear hXc
  have HG := Lib.hid (HG0.out.less (Q := []) (by simp))
  clear HG0
  generalize w.alloc (.cells #[.string x.no, .int .i64 x.place, .string x.set, .int .i64 x.time, .slice A n c] 119) = w1 at *
  go_wp2
  go_loopw [3, 9] (fun v i wr => ∃ k : Nat, k ≤ n ∧ i = .int .i64 k ∧ Hid (BO intR 3 w (needTo x.paras k) v [] wr)) (fun _ i _ => n - (intOf i).toNat)
  case atStart => exact ⟨0, Nat.zero_le _, rfl, HG.out⟩
  case round =>
    clear HG x4
    obtain ⟨k, hk, rfl, HG⟩ := hrel
    by_cases hlt : k < n
    · have hk2 : k < x.paras.length := by rw [HN.out]; exact hlt
      obtain ⟨b, off, rfl, hfb, c0, c1⟩ := paraAt (HV.out.below HG.out.bel HF.out) k hk2
      have HNX := Lib.hid (needTo_next x.paras k hk2)
      have hql := needTo_len x.paras k
      obtain ⟨q, hq⟩ : ∃ q, (needTo x.paras k).length = q := ⟨_, rfl⟩
      rw [hq] at hql
      have HQ := Lib.hid hq
      generalize (x.paras[k]'hk2) = y at *
      generalize needTo x.paras k = cur at *
      have HG1 := Lib.hid (HG.out.alloc (.cells #[.int .i64 y.kind, .string y.text] 198))
      have hbw : b < wr.heap.size := World.block_lt_of_cell? _ _ c0
      clear hk2 hq HG
      by_cases h1 : y.kind = 1
      · have e1 : (y.kind == 1) = true := by rw [h1]; rfl
        have HN2 := Lib.hid (HNX.out.trans (by rw [if_pos (show needK y = true by unfold needK; rw [decide_eq_true h1]; rfl)]))
        clear h1 HNX
        go_upto_region 6 with (fail)
        generalize wr.alloc (.cells #[.int .i64 y.kind, .string y.text] 198) = w2 at *
        go_wp2_with (at_builtin; (refine wpList_pushI rfl _ _ _ rfl w.heap.size w.heap.size 3 i0 _ 8 Tryz.underlying22 hi0 hz0 (by assumption) (by assumption) rfl _ u3 cur rfl (HG1.out.own.alloc _) [(k : Int)] (by simp) w2.heap.size _ _ (heap_alloc_new w2 _) rfl (by rw [HQ.out]; simp [maxLen]; omega) (by rw [HQ.out]; simp; omega) (by have := HG1.out.size; simp; omega) ?_); intro g7 cap7 w7 hown7 hg7 hat7 hlt7)
        go_roundw
        case rel => exact ⟨k + 1, by omega, intNum, by rw [HN2.out]; exact Lib.hid ((HG1.out.alloc (.cells #[.int .i64 (k : Int)] 3)).more hown7 hg7 rfl hat7)⟩
        case measure => simp [intOf]; omega
      have e1 : (y.kind == 1) = false := beq_eq_false_iff_ne.2 h1
      by_cases h4 : y.kind = 4
      · have e4 : (y.kind == 4) = true := by rw [h4]; rfl
        have HN2 := Lib.hid (HNX.out.trans (by rw [if_pos (show needK y = true by unfold needK; rw [decide_eq_true h4, Bool.or_true])]))
        clear h1 h4 HNX
        go_upto_region 6 with (fail)
        generalize wr.alloc (.cells #[.int .i64 y.kind, .string y.text] 198) = w2 at *
        go_wp2_with (at_builtin; (refine wpList_pushI rfl _ _ _ rfl w.heap.size w.heap.size 3 i0 _ 8 Tryz.underlying22 hi0 hz0 (by assumption) (by assumption) rfl _ u3 cur rfl (HG1.out.own.alloc _) [(k : Int)] (by simp) w2.heap.size _ _ (heap_alloc_new w2 _) rfl (by rw [HQ.out]; simp [maxLen]; omega) (by rw [HQ.out]; simp; omega) (by have := HG1.out.size; simp; omega) ?_); intro g7 cap7 w7 hown7 hg7 hat7 hlt7)
        go_roundw
        case rel => exact ⟨k + 1, by omega, intNum, by rw [HN2.out]; exact Lib.hid ((HG1.out.alloc (.cells #[.int .i64 (k : Int)] 3)).more hown7 hg7 rfl hat7)⟩
        case measure => simp [intOf]; omega
      · have e4 : (y.kind == 4) = false := beq_eq_false_iff_ne.2 h4
        have HN2 := Lib.hid (HNX.out.trans (by rw [if_neg (show ¬ needK y = true by unfold needK; rw [decide_eq_false h1, decide_eq_false h4]; decide), List.append_nil]))
        clear h1 h4 HNX
        go_wp2
        go_roundw
        case rel => exact ⟨k + 1, by omega, intNum, by rw [HN2.out]; exact HG1⟩
        case measure => simp [intOf]; omega
    · have hkn : k = n := by omega
      subst hkn
      go_wp2
      go_ret
      exact ⟨_, rfl, by rw [HNL.out]; exact HG.out.own, HG.out.bel⟩
set_option maxRecDepth 100000 in
set_option maxHeartbeats 1600000 in
theorem needed_c {F : Nat → Prop} (x : Scene) (A : Option Addr) (n c : Nat) (w : World) (hv : Sli paraR w F x.paras (.slice A n c)) (hF : ∀ b, F b → b < w.heap.size) (hn : x.paras.length = n) (hlen : n ≤ 1000000) :
    Calls Tryz.prog 107 #[.agg #[.string x.no, .int .i64 x.place, .string x.set, .int .i64 x.time, .slice A n c]] w fun e w' => ∃ v, e = .returned v ∧ Own intR w' w.heap.size w.heap.size 3 (needL x.paras) v ∧ Below w.heap.size w w' := by
  obtain ⟨i0, hi0, hz0, hz1, hz2⟩ := info_parts (show (Tryz.prog.info? 3).map (fun i => (i.zero, i.size, i.bytes)) = some (some (.int .i64 0), 1, 8) by kernel_rfl)
  have HV := Lib.hid hv
  have HF := Lib.hid hF
  have HN := Lib.hid hn
  have HNL := Lib.hid (show needL x.paras = needTo x.paras n by unfold needL; rw [hn])
  have HG0 := Lib.hid ((BO.start (R := intR) (e := 3) w).new #[.string x.no, .int .i64 x.place, .string x.set, .int .i64 x.time, .slice A n c] 119)
  clear hv hF hn
  go_enter Tryz.func107, Tryz.ntmps107
  go_upto_region 2 with (fail)
  have hXc := (HG0.out.cell (p := (w.heap.size, #[.string x.no, .int .i64 x.place, .string x.set, .int .i64 x.time, .slice A n c], 119)) (by simp)).1
  have x4 : (w.alloc (.cells #[.string x.no, .int .i64 x.place, .string x.set, .int .i64 x.time, .slice A n c] 119)).cell? ⟨w.heap.size, 4, none⟩ = some (.slice A n c) := hXc 4
  clear hXc
  have HG := Lib.hid (HG0.out.less (Q := []) (by simp))
  clear HG0
  generalize w.alloc (.cells #[.string x.no, .int .i64 x.place, .string x.set, .int .i64 x.time, .slice A n c] 119) = w1 at *
  go_wp2
  go_loopw [3, 9] (fun v i wr => ∃ k : Nat, k ≤ n ∧ i = .int .i64 k ∧ Hid (BO intR 3 w (needTo x.paras k) v [] wr)) (fun _ i _ => n - (intOf i).toNat)
  case atStart => exact ⟨0, Nat.zero_le _, rfl, HG.out⟩
  case round =>
    clear HG x4
    obtain ⟨k, hk, rfl, HG⟩ := hrel
    by_cases hlt : k < n
    · have hk2 : k < x.paras.length := by rw [HN.out]; exact hlt
      obtain ⟨b, off, rfl, hfb, c0, c1⟩ := paraAt (HV.out.below HG.out.bel HF.out) k hk2
      have HNX := Lib.hid (needTo_next x.paras k hk2)
      have hql := needTo_len x.paras k
      obtain ⟨q, hq⟩ : ∃ q, (needTo x.paras k).length = q := ⟨_, rfl⟩
      rw [hq] at hql
      have HQ := Lib.hid hq
      generalize (x.paras[k]'hk2) = y at *
      generalize needTo x.paras k = cur at *
      have HG1 := Lib.hid (HG.out.alloc (.cells #[.int .i64 y.kind, .string y.text] 198))
      have hbw : b < wr.heap.size := World.block_lt_of_cell? _ _ c0
      clear hk2 hq HG
      by_cases h1 : y.kind = 1
      · have e1 : (y.kind == 1) = true := by rw [h1]; rfl
        have HN2 := Lib.hid (HNX.out.trans (by rw [if_pos (show needK y = true by unfold needK; rw [decide_eq_true h1]; rfl)]))
        clear h1 HNX
        go_upto_region 6 with (fail)
        generalize wr.alloc (.cells #[.int .i64 y.kind, .string y.text] 198) = w2 at *
        go_wp2_with (at_builtin; (refine wpList_pushI rfl _ _ _ rfl w.heap.size w.heap.size 3 i0 _ 8 Tryz.underlying22 hi0 hz0 (by assumption) (by assumption) rfl _ u3 cur rfl (HG1.out.own.alloc _) [(k : Int)] (by simp) w2.heap.size _ _ (heap_alloc_new w2 _) rfl (by rw [HQ.out]; simp [maxLen]; omega) (by rw [HQ.out]; simp; omega) (by have := HG1.out.size; simp; omega) ?_); intro g7 cap7 w7 hown7 hg7 hat7 hlt7)
        go_roundw
        case rel => exact ⟨k + 1, by omega, intNum, by rw [HN2.out]; exact Lib.hid ((HG1.out.alloc (.cells #[.int .i64 (k : Int)] 3)).more hown7 hg7 rfl hat7)⟩
        case measure => simp [intOf]; omega
      have e1 : (y.kind == 1) = false := beq_eq_false_iff_ne.2 h1
      by_cases h4 : y.kind = 4
      · have e4 : (y.kind == 4) = true := by rw [h4]; rfl
        have HN2 := Lib.hid (HNX.out.trans (by rw [if_pos (show needK y = true by unfold needK; rw [decide_eq_true h4, Bool.or_true])]))
        clear h1 h4 HNX
        go_upto_region 6 with (fail)
        generalize wr.alloc (.cells #[.int .i64 y.kind, .string y.text] 198) = w2 at *
        go_wp2_with (at_builtin; (refine wpList_pushI rfl _ _ _ rfl w.heap.size w.heap.size 3 i0 _ 8 Tryz.underlying22 hi0 hz0 (by assumption) (by assumption) rfl _ u3 cur rfl (HG1.out.own.alloc _) [(k : Int)] (by simp) w2.heap.size _ _ (heap_alloc_new w2 _) rfl (by rw [HQ.out]; simp [maxLen]; omega) (by rw [HQ.out]; simp; omega) (by have := HG1.out.size; simp; omega) ?_); intro g7 cap7 w7 hown7 hg7 hat7 hlt7)
        go_roundw
        case rel => exact ⟨k + 1, by omega, intNum, by rw [HN2.out]; exact Lib.hid ((HG1.out.alloc (.cells #[.int .i64 (k : Int)] 3)).more hown7 hg7 rfl hat7)⟩
        case measure => simp [intOf]; omega
      · have e4 : (y.kind == 4) = false := beq_eq_false_iff_ne.2 h4
        have HN2 := Lib.hid (HNX.out.trans (by rw [if_neg (show ¬ needK y = true by unfold needK; rw [decide_eq_false h1, decide_eq_false h4]; decide), List.append_nil]))
        clear h1 h4 HNX
        go_wp2
        go_roundw
        case rel => exact ⟨k + 1, by omega, intNum, by rw [HN2.out]; exact HG1⟩
        case measure => simp [intOf]; omega
    · have hkn : k = n := by omega
      subst hkn
      go_wp2
      go_ret
      exact ⟨_, rfl, by rw [HNL.out]; exact HG.out.own, HG.out.bel⟩
end Go.Proofs.YtmefjkfjpgblcaaGreatDoor

/- Lists of scenes compared by a function. -/
namespace Go.Proofs.YtmefjkfjpgblcaaGreatDoor
set_option linter.unusedVariables false
open Go.RowKit Go.Sort

end Go.Proofs.YtmefjkfjpgblcaaGreatDoor

/- The times of day of a script's scenes. -/
namespace Go.Proofs.YtmefjkfjpgblcaaGreatDoor
set_option linter.unusedVariables false
open Go.RowKit Go.Sort

end Go.Proofs.YtmefjkfjpgblcaaGreatDoor

/- A copy of a script, with memory of its own. -/
namespace Go.Proofs.YtmefjkfjpgblcaaGreatDoor
set_option linter.unusedVariables false
open Go.RowKit Go.Sort

section
variable {w wx wy : World} {l : List (Scene × Value)} {v : Value} {P Q : List (Nat × Array Value × TypeId)}
end
end Go.Proofs.YtmefjkfjpgblcaaGreatDoor

/- The part of one who speaks, in plain words. No program in sight. -/
namespace Go.Proofs.YtmefjkfjpgblcaaGreatDoor
set_option linter.unusedVariables false
open Go.RowKit

def cueB (nm : ByteArray) (p : Para) : Bool := decide (p.kind = 2) && decide (p.text = nm)
def hcB (ps : List Para) (nm : ByteArray) : Bool := ps.any (cueB nm)
end Go.Proofs.YtmefjkfjpgblcaaGreatDoor

/- script.Cut walked. -/
namespace Go.Proofs.YtmefjkfjpgblcaaGreatDoor
set_option linter.unusedVariables false
open Go.RowKit Go.Sort

end Go.Proofs.YtmefjkfjpgblcaaGreatDoor

