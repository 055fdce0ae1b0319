/- Texts packed: ClA, ClB, ClC. -/
import Derived.Test.YtnclmcjanolebaaGreatDoorNo43
import Derived.Test.YtnclmcjanolebaaGreatDoorNo03
import Derived.Test.YtnclmcjanolebaaGreatDoorNo04
import Derived.Test.YtnclmcjanolebaaGreatDoorNo01
/- The colours of drafts, by the program and by the reference; the numbers' check and the pick of an error. -/
namespace Go.Proofs.YtnclmcjanolebaaGreatDoor
set_option linter.unusedVariables false
open Go.RowKit Go.Sort

def rndL : List ByteArray := [⟨#[]⟩, ⟨#[100, 111, 117, 98, 108, 101, 32]⟩, ⟨#[116, 114, 105, 112, 108, 101, 32]⟩]
def colL : List ByteArray := [⟨#[119, 104, 105, 116, 101]⟩, ⟨#[98, 108, 117, 101]⟩, ⟨#[112, 105, 110, 107]⟩, ⟨#[121, 101, 108, 108, 111, 119]⟩, ⟨#[103, 114, 101, 101, 110]⟩, ⟨#[103, 111, 108, 100, 101, 110, 114, 111, 100]⟩, ⟨#[98, 117, 102, 102]⟩, ⟨#[115, 97, 108, 109, 111, 110]⟩, ⟨#[99, 104, 101, 114, 114, 121]⟩, ⟨#[116, 97, 110]⟩]
def rndC : Array Value := #[.string ⟨#[]⟩, .string ⟨#[100, 111, 117, 98, 108, 101, 32]⟩, .string ⟨#[116, 114, 105, 112, 108, 101, 32]⟩]
def colC : Array Value := #[.string ⟨#[119, 104, 105, 116, 101]⟩, .string ⟨#[98, 108, 117, 101]⟩, .string ⟨#[112, 105, 110, 107]⟩, .string ⟨#[121, 101, 108, 108, 111, 119]⟩, .string ⟨#[103, 114, 101, 101, 110]⟩, .string ⟨#[103, 111, 108, 100, 101, 110, 114, 111, 100]⟩, .string ⟨#[98, 117, 102, 102]⟩, .string ⟨#[115, 97, 108, 109, 111, 110]⟩, .string ⟨#[99, 104, 101, 114, 114, 121]⟩, .string ⟨#[116, 97, 110]⟩]
def rndA (k : Nat) : ByteArray := (rndL[k]?).getD ⟨#[]⟩
def colA (k : Nat) : ByteArray := (colL[k]?).getD ⟨#[]⟩
theorem rndC_at (k : Nat) (hk : k < 3) : rndC[k]? = some (.string (rndA k)) := by
  rcases k with _ | _ | _ | k <;> first | rfl | omega
theorem colC_at (k : Nat) (hk : k < 10) : colC[k]? = some (.string (colA k)) := by
  rcases k with _ | _ | _ | _ | _ | _ | _ | _ | _ | _ | k <;> first | rfl | omega
theorem rndA_sz (k : Nat) (hk : k < 3) : (rndA k).size ≤ 10 := by
  have h : ∀ k : Fin 3, (rndA k.val).size ≤ 10 := by decide
  exact h ⟨k, hk⟩
theorem colA_sz (k : Nat) (hk : k < 10) : (colA k).size ≤ 10 := by
  have h : ∀ k : Fin 10, (colA k.val).size ≤ 10 := by decide
  exact h ⟨k, hk⟩
/-- The colour of a draft. -/
def colS (d : Int) : ByteArray := rndA ((d - 1) / 10).toNat ++ colA ((d - 1) % 10).toNat
def ColP (d : Int) (w : World) (e : Ending) (w' : World) : Prop := (∃ (s : ByteArray) (z : Int), e = .returned (.tuple #[.string s, .int .i64 z]) ∧ ((d < 1 ∨ 30 < d) → z = 1) ∧ (¬ (d < 1 ∨ 30 < d) → z = 0 ∧ s = colS d)) ∧ Below w.heap.size w w'
set_option maxRecDepth 100000 in
set_option maxHeartbeats 4000000 in
theorem Colour_c (d : Int) (w : World) (hd : okI d) : Calls Tryz.prog 18 #[.int .i64 d] w (ColP d w) := by
  by_cases h1 : d < 1
  · go_enter Tryz.func18, Tryz.ntmps18
    go_wp2
    go_ret2
    exact ⟨⟨_, _, rfl, fun _ => rfl, fun h => absurd (Or.inl h1) h⟩, Below.refl _ _⟩
  by_cases h2 : 30 < d
  · go_enter Tryz.func18, Tryz.ntmps18
    go_wp2
    go_ret2
    exact ⟨⟨_, _, rfl, fun _ => rfl, fun h => absurd (Or.inr h2) h⟩, Below.refl _ _⟩
  obtain ⟨y, hy⟩ : ∃ y, d - 1 = y := ⟨_, rfl⟩
  obtain ⟨q, hq⟩ : ∃ q, (y / 10).toNat = q := ⟨_, rfl⟩
  obtain ⟨r, hr⟩ : ∃ r, (y % 10).toNat = r := ⟨_, rfl⟩
  have hq3 : q < 3 := by omega
  have hr10 : r < 10 := by omega
  have q1 : IntKind.i64.wrap (y.tdiv 10) = (q : Int) := by rw [Int.tdiv_eq_ediv_of_nonneg (by omega), IntWalk.i64_in _ (by omega)]; omega
  have q2 : y.tmod 10 = (r : Int) := by rw [Int.tmod_eq_emod_of_nonneg (by omega)]; omega
  have HCS := Lib.hid (show colS d = rndA q ++ colA r by unfold colS; rw [hy, hq, hr])
  have HC := Lib.hid (colC_at r hr10)
  have HR := Lib.hid (rndC_at q hq3)
  have hsz1 := rndA_sz q hq3
  have hsz2 := colA_sz r hr10
  have hyr : 0 ≤ y ∧ y < 30 := by omega
  have HRF := Lib.hid (show ¬ (d < 1 ∨ 30 < d) by omega)
  have HBB := Lib.hid (show Below w.heap.size w ((w.alloc (.cells colC 91)).alloc (.cells rndC 92)) from ((Below.refl _ w).alloc (Nat.le_refl _) _).alloc (by simp) _)
  have hz : w.heap.size < ((w.alloc (.cells colC 91)).alloc (.cells rndC 92)).heap.size ∧ w.heap.size + 1 < ((w.alloc (.cells colC 91)).alloc (.cells rndC 92)).heap.size := by simp; omega
  have HX0 := Lib.hid (show ((w.alloc (.cells colC 91)).alloc (.cells rndC 92)).cell? ⟨w.heap.size, r, none⟩ = some (.string (colA r)) from by
    rw [World.cell?_alloc_lt _ _ ⟨w.heap.size, r, none⟩ (by simp)]
    exact ((str_cells (heap_alloc_new w _)).1 r).trans HC.out)
  have HX1 := Lib.hid (show ((w.alloc (.cells colC 91)).alloc (.cells rndC 92)).cell? ⟨w.heap.size + 1, q, none⟩ = some (.string (rndA q)) from by
    have h := (str_cells (heap_alloc_new (w.alloc (.cells colC 91)) (.cells rndC 92))).1 q
    rw [show (w.alloc (.cells colC 91)).heap.size = w.heap.size + 1 by simp] at h
    exact h.trans HR.out)
  unfold colC rndC at HBB hz HX0 HX1
  clear hq hr hd HC HR
  go_enter Tryz.func18, Tryz.ntmps18
  go_upto_region 5 with (fail)
  generalize (w.alloc (.cells #[.string ⟨#[119, 104, 105, 116, 101]⟩, .string ⟨#[98, 108, 117, 101]⟩, .string ⟨#[112, 105, 110, 107]⟩, .string ⟨#[121, 101, 108, 108, 111, 119]⟩, .string ⟨#[103, 114, 101, 101, 110]⟩, .string ⟨#[103, 111, 108, 100, 101, 110, 114, 111, 100]⟩, .string ⟨#[98, 117, 102, 102]⟩, .string ⟨#[115, 97, 108, 109, 111, 110]⟩, .string ⟨#[99, 104, 101, 114, 114, 121]⟩, .string ⟨#[116, 97, 110]⟩] 91)).alloc (.cells #[.string ⟨#[]⟩, .string ⟨#[100, 111, 117, 98, 108, 101, 32]⟩, .string ⟨#[116, 114, 105, 112, 108, 101, 32]⟩] 92) = w2 at *
  have s0 : ∀ (d : Nat) (os : Array Obj), (Sort.grow (redrawn w2 d) os).cell? ⟨w.heap.size, r, none⟩ = some (.string (colA r)) := fun d os => ((below_regrown w2 d os).cell (p := ⟨w.heap.size, r, none⟩) hz.1).trans HX0.out
  have s1 : ∀ (d : Nat) (os : Array Obj), (Sort.grow (redrawn w2 d) os).cell? ⟨w.heap.size + 1, q, none⟩ = some (.string (rndA q)) := fun d os => ((below_regrown w2 d os).cell (p := ⟨w.heap.size + 1, q, none⟩) hz.2).trans HX1.out
  refine wp_region_quiet_below (by kernel_rfl) (by kernel_rfl) ?_
  repeat (first | go_big_quiet_step ((fail)) | quiet_step ((fail)))
  refine wpQuiet_nil ?_
  intro wx hwx
  have hbx := below_of_regrown hwx
  clear hwx
  have HB := Lib.hid (HBB.out.trans (hbx.mono HBB.out.size))
  clear s0 s1 hbx
  go_wp2
  go_ret2
  exact ⟨⟨_, _, rfl, fun h => absurd h HRF.out, fun _ => ⟨rfl, HCS.out.symm⟩⟩, HB.out⟩
end Go.Proofs.YtnclmcjanolebaaGreatDoor

/- R.ColourOf; the check of a number, and the pick of an error, walked. -/
namespace Go.Proofs.YtnclmcjanolebaaGreatDoor
set_option linter.unusedVariables false
open Go.RowKit Go.Sort

set_option maxRecDepth 100000 in
set_option maxHeartbeats 2000000 in
theorem colours_c (w : World) : Calls Tryz.prog 56 #[] w fun e w' => e = .returned (.slice (some ⟨w.heap.size, 0, none⟩) 10 10) ∧ w' = w.alloc (.cells colC 9) := by
  unfold colC
  go_enter Tryz.func56, Tryz.ntmps56
  go_wp2
  go_ret
  exact ⟨rfl, rfl⟩
set_option maxRecDepth 100000 in
set_option maxHeartbeats 2000000 in
theorem CheckNumber_c (s : ByteArray) (w : World) (hs : s.size ≤ 140737488355328) : Calls Tryz.prog 17 #[.string s] w fun e w' => e = .returned (.int .i64 (bif numB s then 0 else 5)) ∧ w = w' := by
  have HN := Lib.hid (fun W => IsNumber_c s W hs)
  cases hb : numB s with
  | true =>
    rw [hb] at HN
    go_enter Tryz.func17, Tryz.ntmps17
    go_wp2_with (refine (HN.out _).mono ?_; rintro e w' ⟨rfl, rfl⟩)
    go_ret
    exact ⟨rfl, rfl⟩
  | false =>
    rw [hb] at HN
    go_enter Tryz.func17, Tryz.ntmps17
    go_wp2_with (refine (HN.out _).mono ?_; rintro e w' ⟨rfl, rfl⟩)
    go_ret
    exact ⟨rfl, rfl⟩
set_option maxRecDepth 100000 in
set_option maxHeartbeats 2000000 in
theorem noFault_c (s : ByteArray) (w : World) (hs : s.size ≤ 140737488355328) : Calls Tryz.prog 16 #[.string s] w fun e w' => e = .returned (.int .i64 (bif numB s then 0 else 5)) ∧ Below w.heap.size w w' := by
  have HN := Lib.hid (NumberOf_c s w hs)
  cases hb : numB s with
  | true =>
    rw [hb] at HN
    go_enter Tryz.func16, Tryz.ntmps16
    go_wp2_with fail
    refine HN.out.mono ?_
    rintro e w' ⟨rfl, hbw⟩
    have HB := Lib.hid hbw
    clear hbw
    go_wp2
    go_ret
    exact ⟨rfl, HB.out⟩
  | false =>
    rw [hb] at HN
    go_enter Tryz.func16, Tryz.ntmps16
    go_wp2_with fail
    refine HN.out.mono ?_
    rintro e w' ⟨rfl, hbw⟩
    have HB := Lib.hid hbw
    clear hbw
    go_wp2
    go_ret
    exact ⟨rfl, HB.out⟩
def CmqP (a b : ByteArray) (w : World) (e : Ending) (w' : World) : Prop := (∃ z q : Int, e = .returned (.tuple #[.int .i64 z, .int .i64 q]) ∧ ((numB a && numB b) = true → z = cmpN a b ∧ q = 0) ∧ ((numB a && numB b) = false → q = 5)) ∧ Below w.heap.size w w'
set_option maxRecDepth 100000 in
set_option maxHeartbeats 4000000 in
theorem Compare_c (a b : ByteArray) (w : World) (ha : a.size ≤ 10000) (hb : b.size ≤ 10000) (he : ErrsLaid w) : Calls Tryz.prog 20 #[.string a, .string b] w (CmqP a b w) := by
  have HN := Lib.hid (fun W => IsNumber_c a W (by omega))
  have HM := Lib.hid (fun W => IsNumber_c b W (by omega))
  have HC := Lib.hid (compare_c a b w ha hb he)
  cases h1 : numB a with
  | false =>
    rw [h1] at HN
    have HF := Lib.hid (show CmqP a b w (.returned (.tuple #[.int .i64 0, .int .i64 5])) w from ⟨⟨_, _, rfl, (fun h => by rw [h1] at h; cases h), fun _ => rfl⟩, Below.refl _ _⟩)
    go_enter Tryz.func20, Tryz.ntmps20
    go_wp2_with (refine (HN.out _).mono ?_; rintro e w' ⟨rfl, rfl⟩)
    go_ret2
    exact HF.out
  | true =>
    rw [h1] at HN
    cases h2 : numB b with
    | false =>
      rw [h2] at HM
      have HF := Lib.hid (show CmqP a b w (.returned (.tuple #[.int .i64 0, .int .i64 5])) w from ⟨⟨_, _, rfl, (fun h => by rw [h1, h2] at h; cases h), fun _ => rfl⟩, Below.refl _ _⟩)
      go_enter Tryz.func20, Tryz.ntmps20
      go_wp2_with (first | (with_reducible refine (HN.out _).mono ?_; rintro e w' ⟨rfl, rfl⟩) | (with_reducible refine (HM.out _).mono ?_; rintro e w' ⟨rfl, rfl⟩))
      go_ret2
      exact HF.out
    | true =>
      rw [h2] at HM
      have HF := Lib.hid (fun w' (hb : Below w.heap.size w w') => show CmqP a b w (.returned (.tuple #[.int .i64 (cmpN a b), .int .i64 0])) w' from ⟨⟨_, _, rfl, fun _ => ⟨rfl, rfl⟩, fun h => by rw [h1, h2] at h; cases h⟩, hb⟩)
      generalize cmpN a b = z at HF HC
      go_enter Tryz.func20, Tryz.ntmps20
      go_upto_region 3 with (first | (with_reducible refine (HN.out _).mono ?_; rintro e w' ⟨rfl, rfl⟩) | (with_reducible refine (HM.out _).mono ?_; rintro e w' ⟨rfl, rfl⟩) | fail)
      go_wp2_with fail
      refine HC.out.mono ?_
      rintro e w' ⟨rfl, hbw⟩
      have HB := Lib.hid (HF.out _ hbw)
      clear hbw HF
      go_wp2
      go_ret2
      exact HB.out
set_option maxRecDepth 100000 in
set_option maxHeartbeats 2000000 in
theorem orE_c (A : Option Addr) (l : List Int) (c lo : Nat) (w : World) (hr : Rs w lo w.heap.size 1 intc A l) (hl : l.length ≤ 1000000) : Calls Tryz.prog 21 #[.slice A l.length c] w (fun e w' => e = .returned (.int .i64 (orI l)) ∧ w' = w) := by
  have HR := Lib.hid hr
  clear hr
  go_enter Tryz.func21, Tryz.ntmps21
  go_wp2
  go_loop [8, 5] (fun i _ => ∃ k : Nat, k ≤ l.length ∧ i = .int .i64 k ∧ Hid (∀ x ∈ l.take k, decide (x ≠ 0) = false)) (fun i _ => l.length - (intOf i).toNat)
  case atStart => exact ⟨0, by omega, rfl, Lib.hid (by simp)⟩
  case round =>
    obtain ⟨k, hk, rfl, HX⟩ := hrel
    by_cases hlt : k < l.length
    · obtain ⟨b, off, rfl, hb0, hb, hcell⟩ := HR.out.at1 (enc1 := .int .i64) hlt
      by_cases h0 : l[k] = 0
      · rw [h0] at hcell
        go_wp2
        go_round
        case rel => exact ⟨k + 1, by omega, intNum, Lib.hid (take_next (q := fun x => decide (x ≠ 0) = false) hlt HX.out (by simp [h0]))⟩
        all_goals (try (simp [intOf] <;> omega))
      · have HV := Lib.hid (show orI l = l[k] by unfold orI; rw [List.find?_eq_some_iff_getElem.2 ⟨by simpa using h0, k, hlt, rfl, fun j hj => by have := HX.out l[j] (by rw [List.mem_take_iff_getElem]; exact ⟨j, by omega, rfl⟩); simpa using this⟩]; rfl)
        generalize l[k] = z at *
        go_wp2
        go_ret
        exact ⟨by rw [HV.out]; rfl, rfl⟩
    · have HV := Lib.hid (show orI l = 0 by unfold orI; rw [List.find?_eq_none.2 (fun x hx => by have := take_all (q := fun x => decide (x ≠ 0) = false) hlt HX.out x hx; simpa using this)]; rfl)
      go_wp2
      go_ret
      exact ⟨by rw [HV.out]; rfl, rfl⟩
end Go.Proofs.YtnclmcjanolebaaGreatDoor

/- R.ColourOf, walked. -/
namespace Go.Proofs.YtnclmcjanolebaaGreatDoor
set_option linter.unusedVariables false
open Go.RowKit Go.Sort

set_option maxRecDepth 100000 in
set_option maxHeartbeats 8000000 in
theorem ColourOf_c (d : Int) (w : World) (h1 : 1 ≤ d) (h2 : d ≤ 30) : Calls Tryz.prog 19 #[.int .i64 d] w fun e w' => e = .returned (.string (colS d)) ∧ Below w.heap.size w w' := by
  obtain ⟨y, hy⟩ : ∃ y, d - 1 = y := ⟨_, rfl⟩
  obtain ⟨q, hq⟩ : ∃ q, (y / 10).toNat = q := ⟨_, rfl⟩
  obtain ⟨r, hr⟩ : ∃ r, (y % 10).toNat = r := ⟨_, rfl⟩
  have hq3 : q < 3 := by omega
  have hr10 : r < 10 := by omega
  have q1 : IntKind.i64.wrap (y.tdiv 10) = (q : Int) := by rw [Int.tdiv_eq_ediv_of_nonneg (by omega), IntWalk.i64_in _ (by omega)]; omega
  have q2 : y.tmod 10 = (r : Int) := by rw [Int.tmod_eq_emod_of_nonneg (by omega)]; omega
  have HCS := Lib.hid (show colS d = rndA q ++ colA r by unfold colS; rw [hy, hq, hr])
  have HC := Lib.hid (fun (W : World) => show (W.alloc (.cells colC 9)).cell? ⟨W.heap.size, r, none⟩ = some (.string (colA r)) from ((str_cells (heap_alloc_new W _)).1 r).trans (colC_at r hr10))
  have HR := Lib.hid (fun (W : World) => show (W.alloc (.cells rndC 9)).cell? ⟨W.heap.size, q, none⟩ = some (.string (rndA q)) from ((str_cells (heap_alloc_new W _)).1 q).trans (rndC_at q hq3))
  have hsz1 := rndA_sz q hq3
  have hsz2 := colA_sz r hr10
  have hyr : 0 ≤ y ∧ y < 30 := by omega
  have HCO := Lib.hid (fun W => colours_c W)
  have hneW : Nonempty World := ⟨w⟩
  clear hq hr
  go_enter Tryz.func19, Tryz.ntmps19
  go_upto_region 1 with (fail)
  refine stp_start [0, 6] (by kernel_rfl) (fun _ => True) ?_
  refine stp_reads (n := 8) [1, 2, 3, 7, 8, 9] [] (by simp only [pick, List.getElem?_cons_succ, List.getElem?_cons_zero]; rfl) (by simp only [pick, List.getElem?_cons_succ, List.getElem?_cons_zero]; rfl) (by rfl) (by kernel_rfl) (by rfl) (fun _ _ _ dd _ h => by cases dd <;> exact h) trivial (fun K1 hK1 L1 hL1 => ?_)
  repeat (first | go_big_quiet_step (fail) | quiet_step (fail))
  refine wpQuiet_nil (hL1 _ ?_)
  refine wpQuiet_nil ?_
  refine hK1 _ ?_
  refine stp_two (i := 0) (j := 6) (by kernel_rfl) rfl rfl (by kernel_rfl) (by kernel_rfl) (by rfl) (by rfl) (fun K2 hK2 => ?_) (fun K3 hK3 => ?_)
  · refine Or.inl ⟨by kernel_rfl, ?_⟩
    go_simp
    obtain ⟨ι, ff, hne, hff, hfS⟩ := family (fun W => W.cell? ⟨w.heap.size, q, none⟩ = some (.string (rndA q))) (w.drew.alloc (.cells rndC 9)) (HR.out w.drew)
    have s0 := fun p => hff p
    have HFS := Lib.hid hfS
    have HFF := Lib.hid hff
    clear hff hfS
    refine hK2 (fun W => ∃ p : ι, W = ff p) _ _ (fun _ _ => trivial) (fun _ => HFS.out _ (HR.out w.drew)) ?_
    refine stp_reads (n := 5) [4] [5] (by simp only [pick, List.getElem?_cons_succ, List.getElem?_cons_zero]; rfl) (by simp only [pick, List.getElem?_cons_succ, List.getElem?_cons_zero]; rfl) (by rfl) (by kernel_rfl) (by rfl) (fun _ _ _ dd _ h => by cases dd <;> exact h) (HFS.out _ (HR.out w.drew)) (fun K4 hK4 L4 hL4 => ?_)
    repeat (first | go_big_quiet_step (fail) | quiet_step (fail))
    refine wpQuiet_nil (hL4 _ ?_)
    repeat (first | go_big_quiet_step (fail) | quiet_step (fail))
    refine wpQuiet_nil ?_
    refine hK4 _ ?_
    have HB2 := Lib.hid (fun (W : World) (hb : w.drew.heap.size < W.heap.size) (h : W.cell? ⟨w.heap.size, q, none⟩ = some (.string (rndA q))) => show (W.alloc (.cells colC 9)).cell? ⟨w.heap.size, q, none⟩ = some (.string (rndA q)) ∧ (W.alloc (.cells colC 9)).cell? ⟨W.heap.size, r, none⟩ = some (.string (colA r)) from ⟨(World.cell?_alloc_lt W _ ⟨w.heap.size, q, none⟩ hb).trans h, HC.out W⟩)
    have hzz : (w.drew.alloc (.cells rndC 9)).heap.size = w.heap.size + 1 := (show (w.alloc (.cells rndC 9)).heap.size = w.heap.size + 1 by simp)
    have HB3 := Lib.hid (HB2.out (w.drew.alloc (.cells rndC 9)) (by rw [hzz]; exact Nat.lt_succ_self _) (HR.out w.drew))
    rw [hzz] at HB3
    refine stp_one (i := 6) (by kernel_rfl) rfl (by kernel_rfl) (by rfl) (fun K5 hK5 => ?_)
    refine Or.inl ⟨by kernel_rfl, ?_⟩
    go_simp
    refine (HCO.out _).mono ?_
    rintro e w7 ⟨he, rfl⟩
    have he2 := he.trans (show _ = Ending.returned (.slice (some ⟨w.heap.size + 1, 0, none⟩) 10 10) by simp [World.drew])
    clear he
    subst he2
    obtain ⟨ι2, ff2, hne2, hff2, hfS2⟩ := family (fun W => W.cell? ⟨w.heap.size, q, none⟩ = some (.string (rndA q)) ∧ W.cell? ⟨w.heap.size + 1, r, none⟩ = some (.string (colA r))) ((w.drew.alloc (.cells rndC 9)).alloc (.cells colC 9)) HB3.out
    have s1 := fun p => (hff2 p).2
    have HFS2 := Lib.hid hfS2
    have HFG := Lib.hid hff2
    clear hff2 hfS2
    refine hK5 (fun W => ∃ p : ι2, W = ff2 p) _ _ (fun W ⟨p, e⟩ => HFS.out W (by rw [e]; exact (HFG.out p).1)) (fun _ => HFS2.out _ HB3.out) ?_
    refine stp_reads (n := 2) [10] [11] (by simp only [pick, List.getElem?_cons_succ, List.getElem?_cons_zero]; rfl) (by simp only [pick, List.getElem?_cons_succ, List.getElem?_cons_zero]; rfl) (by rfl) (by kernel_rfl) (by rfl) (fun _ _ _ dd _ h => by cases dd <;> exact h) (HFS2.out _ HB3.out) (fun K6 hK6 L6 hL6 => ?_)
    repeat (first | go_big_quiet_step (fail) | quiet_step (fail))
    refine wpQuiet_nil (hL6 _ ?_)
    repeat (first | go_big_quiet_step (fail) | quiet_step (fail))
    refine wpQuiet_nil ?_
    refine hK6 _ ?_
    refine stp_reads (n := 0) [12, 13] [] (by simp only [pick, List.getElem?_cons_succ, List.getElem?_cons_zero]; rfl) (by simp only [pick, List.getElem?_cons_succ, List.getElem?_cons_zero]; rfl) (by rfl) (by kernel_rfl) (by rfl) (fun _ _ _ dd _ h => by cases dd <;> exact h) (HFS2.out _ HB3.out) (fun K7 hK7 L7 hL7 => ?_)
    repeat (first | go_big_quiet_step (fail) | quiet_step (fail))
    refine wpQuiet_nil (hL7 _ ?_)
    repeat (first | go_big_quiet_step (fail) | quiet_step (fail))
    refine wpQuiet_nil ?_
    refine hK7 _ ?_
    refine stp_end (by kernel_rfl) ?_
    have HBE := Lib.hid (show Below w.heap.size w ((w.drew.alloc (.cells rndC 9)).alloc (.cells colC 9)) from ((Below.refl _ w).drew.alloc (Nat.le_refl _) _).alloc (by rw [hzz]; exact Nat.le_succ _) _)
    clear s0 s1 hzz
    go_wp2
    go_ret
    exact ⟨by rw [HCS.out]; rfl, HBE.out⟩
  · refine Or.inl ⟨by kernel_rfl, ?_⟩
    go_simp
    refine (HCO.out _).mono ?_
    rintro e w7 ⟨rfl, rfl⟩
    obtain ⟨ι, ff, hne, hff, hfS⟩ := family (fun W => W.cell? ⟨w.heap.size, r, none⟩ = some (.string (colA r))) (w.drew.alloc (.cells colC 9)) (HC.out w.drew)
    have s0 := fun p => hff p
    have HFS := Lib.hid hfS
    have HFF := Lib.hid hff
    clear hff hfS
    rw [show w.drew.heap.size = w.heap.size from rfl]
    refine hK3 (fun W => ∃ p : ι, W = ff p) _ _ (fun _ _ => trivial) (fun _ => HFS.out _ (HC.out w.drew)) ?_
    refine stp_reads (n := 5) [10] [11] (by simp only [pick, List.getElem?_cons_succ, List.getElem?_cons_zero]; rfl) (by simp only [pick, List.getElem?_cons_succ, List.getElem?_cons_zero]; rfl) (by rfl) (by kernel_rfl) (by rfl) (fun _ _ _ dd _ h => by cases dd <;> exact h) (HFS.out _ (HC.out w.drew)) (fun K4 hK4 L4 hL4 => ?_)
    repeat (first | go_big_quiet_step (fail) | quiet_step (fail))
    refine wpQuiet_nil (hL4 _ ?_)
    repeat (first | go_big_quiet_step (fail) | quiet_step (fail))
    refine wpQuiet_nil ?_
    refine hK4 _ ?_
    have HB2 := Lib.hid (fun (W : World) (hb : w.drew.heap.size < W.heap.size) (h : W.cell? ⟨w.heap.size, r, none⟩ = some (.string (colA r))) => show (W.alloc (.cells rndC 9)).cell? ⟨w.heap.size, r, none⟩ = some (.string (colA r)) ∧ (W.alloc (.cells rndC 9)).cell? ⟨W.heap.size, q, none⟩ = some (.string (rndA q)) from ⟨(World.cell?_alloc_lt W _ ⟨w.heap.size, r, none⟩ hb).trans h, HR.out W⟩)
    have hzz : (w.drew.alloc (.cells colC 9)).heap.size = w.heap.size + 1 := (show (w.alloc (.cells colC 9)).heap.size = w.heap.size + 1 by simp)
    have HB3 := Lib.hid (HB2.out (w.drew.alloc (.cells colC 9)) (by rw [hzz]; exact Nat.lt_succ_self _) (HC.out w.drew))
    rw [hzz] at HB3
    have HBE := Lib.hid (show Below w.heap.size w ((w.drew.alloc (.cells colC 9)).alloc (.cells rndC 9)) from ((Below.refl _ w).drew.alloc (Nat.le_refl _) _).alloc (by rw [hzz]; exact Nat.le_succ _) _)
    refine stp_one (i := 0) (by kernel_rfl) rfl (by kernel_rfl) (by rfl) (fun K5 hK5 => ?_)
    refine Or.inl ⟨by kernel_rfl, ?_⟩
    obtain ⟨ι2, ff2, hne2, hff2, hfS2⟩ := family (fun W => W.cell? ⟨w.heap.size, r, none⟩ = some (.string (colA r)) ∧ W.cell? ⟨w.heap.size + 1, q, none⟩ = some (.string (rndA q))) ((w.drew.alloc (.cells colC 9)).alloc (.cells rndC 9)) HB3.out
    have s1 := fun p => (hff2 p).2
    have HFS2 := Lib.hid hfS2
    have HFG := Lib.hid hff2
    clear hff2 hfS2
    go_simp
    refine hK5 (fun W => ∃ p : ι2, W = ff2 p) _ _ (fun W ⟨p, e⟩ => HFS.out W (by rw [e]; exact (HFG.out p).1)) (fun _ => HFS2.out _ HB3.out) ?_
    refine stp_reads (n := 2) [4] [5] (by simp only [pick, List.getElem?_cons_succ, List.getElem?_cons_zero]; rfl) (by simp only [pick, List.getElem?_cons_succ, List.getElem?_cons_zero]; rfl) (by rfl) (by kernel_rfl) (by rfl) (fun _ _ _ dd _ h => by cases dd <;> exact h) (HFS2.out _ HB3.out) (fun K6 hK6 L6 hL6 => ?_)
    repeat (first | go_big_quiet_step (fail) | quiet_step (fail))
    refine wpQuiet_nil (hL6 _ ?_)
    repeat (first | go_big_quiet_step (fail) | quiet_step (fail))
    refine wpQuiet_nil ?_
    refine hK6 _ ?_
    refine stp_reads (n := 0) [12, 13] [] (by simp only [pick, List.getElem?_cons_succ, List.getElem?_cons_zero]; rfl) (by simp only [pick, List.getElem?_cons_succ, List.getElem?_cons_zero]; rfl) (by rfl) (by kernel_rfl) (by rfl) (fun _ _ _ dd _ h => by cases dd <;> exact h) (HFS2.out _ HB3.out) (fun K7 hK7 L7 hL7 => ?_)
    repeat (first | go_big_quiet_step (fail) | quiet_step (fail))
    refine wpQuiet_nil (hL7 _ ?_)
    repeat (first | go_big_quiet_step (fail) | quiet_step (fail))
    refine wpQuiet_nil ?_
    refine hK7 _ ?_
    refine stp_end (by kernel_rfl) ?_
    clear s0 s1 hzz
    go_wp2
    go_ret
    exact ⟨by rw [HCS.out]; rfl, HBE.out⟩
end Go.Proofs.YtnclmcjanolebaaGreatDoor

