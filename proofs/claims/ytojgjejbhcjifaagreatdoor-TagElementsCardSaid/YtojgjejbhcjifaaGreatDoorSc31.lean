/- Texts packed: LawTagElements. -/
import Derived.Test.YtojgjejbhcjifaaGreatDoorRows
import Derived.Test.YtojgjejbhcjifaaGreatDoorSc29
import Derived.Test.YtojgjejbhcjifaaGreatDoorSc30
import Derived.Test.YtojgjejbhcjifaaGreatDoorSc23
import Derived.Test.YtojgjejbhcjifaaGreatDoorSc25
import Derived.Test.YtojgjejbhcjifaaGreatDoorSc01
/- The law TagElements walked: for every list of numbers it returns true and leaves what was there. -/
namespace Go.Proofs.YtojgjejbhcjifaaGreatDoor
set_option linter.unusedVariables false
open Go.RowKit Go.Sort

set_option maxRecDepth 100000 in
set_option maxHeartbeats 8000000 in
theorem TagElements_c (A : Option Addr) (l : List Int) (c : Nat) (w : World) (hr : Rs w 0 w.heap.size 1 intc A l) (hl : l.length ≤ 17592186044416) (ho : ∀ x ∈ l, okI x) (he : ErrsLaid w) (hs : SpLaid w) (hm : MaxLaid w) :
    Calls Tryz.prog 4 #[.slice A l.length c] w fun e w' => e = .returned (.bool true) ∧ Below w.heap.size w w' := by
  have S0 := strNew w A l c hr hl ho
  have HW0 := Lib.hid (show (w.alloc (.cells #[.slice A l.length c, .int .i64 0] 25)).heap.size = w.heap.size + 1 by simp)
  have HG := Lib.hid (fun (n : Int) (wx : World) P (h : PvS (w.alloc (.cells #[.slice A l.length c, .int .i64 0] 25)) w.heap.size P n wx) => show Below w.heap.size w wx ∧ SpLaid wx ∧ MaxLaid wx ∧ ErrsLaid wx from
    have hb := gEnd h.gr
    ⟨hb, sp_below hs hb (Nat.le_refl _), max_below hm hb (Nat.le_refl _), he.below hb (Nat.le_refl _)⟩)
  have G0 := Lib.hid (GS.start (R := dumR) (e := 3) S0)
  clear hr ho hs hm he S0
  go_enter Tryz.func4, Tryz.ntmps4
  go_upto_region 2 with (fail)
  generalize w.alloc (.cells #[.slice A l.length c, .int .i64 0] 25) = W0 at *
  go_wp2_with fail
  refine (Element_c w.heap.size 0 W0 G0.out.str (by decide)).mono ?_
  rintro e w1 ⟨v1, n1, rfl, ⟨k, s, rfl, hk0, hk1, hss⟩, hn1, hs1, hg1⟩
  have G1 := Lib.hid (G0.out.turn hg1 hs1)
  clear hs1 hg1 G0
  go_wp2_with fail
  refine (Pattern_c w.heap.size n1 w1 G1.out.str (by omega)).mono ?_
  rintro e w2 ⟨v2, n2, rfl, ⟨p, hp, rfl⟩, hn2, hs2, hg2⟩
  have G2 := Lib.hid (G1.out.turn hg2 hs2)
  clear hs2 hg2 G1
  have G3 := Lib.hid (G2.out.new #[.int .i64 k, .string s] 39)
  obtain ⟨d, _⟩ := G3.out.cell (p := (w2.heap.size, #[.int .i64 k, .string s], 39)) (by simp)
  have d0 : (w2.alloc (.cells #[.int .i64 k, .string s] 39)).cell? ⟨w2.heap.size, 0, none⟩ = some (.int .i64 k) := d 0
  have d1 : (w2.alloc (.cells #[.int .i64 k, .string s] 39)).cell? ⟨w2.heap.size, 1, none⟩ = some (.string s) := d 1
  clear d
  rw [show Value.agg (pCs k s) = .agg #[.int .i64 k, .string s] from rfl]
  go_upto_region 3 with (fail)
  have hlt : w2.heap.size < (w2.alloc (.cells #[.int .i64 k, .string s] 39)).heap.size := by simp
  generalize w2.alloc (.cells #[.int .i64 k, .string s] 39) = w3 at *
  have HL3 := Lib.hid (HG.out _ _ _ G3.out)
  have s0 : ∀ (d : Nat) (os : Array Obj), (Sort.grow (redrawn w3 d) os).cell? ⟨w2.heap.size, 0, none⟩ = some (.int .i64 k) := fun d os => ((below_regrown w3 d os).cell hlt).trans d0
  have s1 : ∀ (d : Nat) (os : Array Obj), (Sort.grow (redrawn w3 d) os).cell? ⟨w2.heap.size, 1, none⟩ = some (.string s) := fun d os => ((below_regrown w3 d os).cell hlt).trans d1
  have HTG := Lib.hid (fun W hm hE => tags_c W hm hE)
  have HCE := Lib.hid (fun W (hm : MaxLaid W) => show Calls Tryz.prog 13 #[.agg #[.int .i64 k, .string s]] W fun e w' => e = .returned (.int .i64 (elE k s)) ∧ Below W.heap.size W w' from CheckElement_c k s W (by omega) hm)
  have HEF := Lib.hid (fun W (hm : SpLaid W) => show Calls Tryz.prog 14 #[.agg #[.int .i64 k, .string s]] W fun e w' => e = .returned (.int .i64 (elE k s)) ∧ Below W.heap.size W w' from ElementFault_c k s W (by omega) hm)
  have HCP := Lib.hid (fun W (hm : MaxLaid W) => CheckPattern_c p W (by omega) hm)
  have HPF := Lib.hid (fun W (hm : MaxLaid W) => show Calls Tryz.prog 8 #[.string p] W fun e w' => e = .returned (.int .i64 (patE p)) ∧ Below W.heap.size W w' from PatternFault_c p W (by omega) hm)
  generalize elE k s = ee at *
  generalize patE p = pe at *
  clear d0 d1
  refine wp_region_quiet_below (by kernel_rfl) (by kernel_rfl) ?_
  repeat (first | go_big_quiet_step ((first | (go_at_call 9; exact Calls.regrown_of (HTG.out _ (max_below HL3.out.2.2.1 (below_regrown _ _ _) (Nat.le_refl _)) (HL3.out.2.2.2.below (below_regrown _ _ _) (Nat.le_refl _)))) | (go_at_call 13; exact Calls.regrown_of (HCE.out _ (max_below HL3.out.2.2.1 (below_regrown _ _ _) (Nat.le_refl _)))) | (go_at_call 14; exact Calls.regrown_of (HEF.out _ (sp_below HL3.out.2.1 (below_regrown _ _ _) (Nat.le_refl _)))) | (go_at_call 15; exact Calls.regrown_of (HCP.out _ (max_below HL3.out.2.2.1 (below_regrown _ _ _) (Nat.le_refl _)))) | (go_at_call 8; exact Calls.regrown_of (HPF.out _ (max_below HL3.out.2.2.1 (below_regrown _ _ _) (Nat.le_refl _)))))) | quiet_step ((first | (go_at_call 9; exact Calls.regrown_of (HTG.out _ (max_below HL3.out.2.2.1 (below_regrown _ _ _) (Nat.le_refl _)) (HL3.out.2.2.2.below (below_regrown _ _ _) (Nat.le_refl _)))) | (go_at_call 13; exact Calls.regrown_of (HCE.out _ (max_below HL3.out.2.2.1 (below_regrown _ _ _) (Nat.le_refl _)))) | (go_at_call 14; exact Calls.regrown_of (HEF.out _ (sp_below HL3.out.2.1 (below_regrown _ _ _) (Nat.le_refl _)))) | (go_at_call 15; exact Calls.regrown_of (HCP.out _ (max_below HL3.out.2.2.1 (below_regrown _ _ _) (Nat.le_refl _)))) | (go_at_call 8; exact Calls.regrown_of (HPF.out _ (max_below HL3.out.2.2.1 (below_regrown _ _ _) (Nat.le_refl _)))))))
  refine wpQuiet_nil ?_
  intro wx hwx
  have hbx := below_of_regrown hwx
  clear hwx
  go_wp2
  go_ret
  exact ⟨rfl, HL3.out.1.trans (hbx.mono HL3.out.1.size)⟩
end Go.Proofs.YtojgjejbhcjifaaGreatDoor

