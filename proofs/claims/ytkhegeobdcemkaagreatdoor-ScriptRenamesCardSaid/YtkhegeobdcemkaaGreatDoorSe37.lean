/- Texts packed: RhW. -/
import Derived.Test.YtkhegeobdcemkaaGreatDoorSe30
import Derived.Test.YtkhegeobdcemkaaGreatDoorSe36
import Derived.Test.YtkhegeobdcemkaaGreatDoorSe21
import Derived.Test.YtkhegeobdcemkaaGreatDoorSe17
/- Whether a script has somebody: the closures of script.Rename and R.RenameOf, walked. -/
namespace Go.Proofs.YtkhegeobdcemkaaGreatDoor
set_option linter.unusedVariables false
open Go.RowKit Go.Sort

/-- A function value that answers each scene of a list. -/
def PredT (P : Program) (g : Nat) (cb : Array Value) (l : List (Scene × Value)) (p : Scene → Bool) (w : World) : Prop :=
  (∀ args W, (callFunc g args).run P W = .ok (.enter g args) W) ∧ ∀ y ∈ l, ∀ (W : World), Below w.heap.size w W → Calls P g (#[.agg #[.string y.1.no, .int .i64 y.1.place, .string y.1.set, .int .i64 y.1.time, y.2]] ++ cb) W fun e w' => e = .returned (.bool (p y.1)) ∧ Below W.heap.size W w'
set_option maxHeartbeats 800000 in
theorem idxScn_c {F : Nat → Prop} (l : List (Scene × Value)) (A : Option Addr) (c g n : Nat) (cb : Array Value) (p : Scene → Bool) (w : World) (hn : l.length = n) (hv : Sli svR w F l (.slice A n c)) (hF : ∀ b, F b → b < w.heap.size) (hf : ∀ x ∈ l, ∃ A n c, x.2 = .slice A n c) (hlen : l.length ≤ 1000000)
    (hp : PredT Tryz.prog g cb l p w) :
    Calls Tryz.prog 113 #[.slice A n c, .func (.func g) #[] cb] w fun e w' => e = .returned (.int .i64 (idxV (l.findIdx? fun x => p x.1))) ∧ Below w.heap.size w w' := by
  have eg := hp.1
  have HP := Lib.hid hp.2
  have HV := Lib.hid hv
  have HF := Lib.hid hF
  have HFO := Lib.hid hf
  have HL := Lib.hid hn
  rw [hn] at hlen
  clear hp hv hF hf hn
  go_enter Tryz.func113, Tryz.ntmps113
  go_wp2
  go_loopw [5, 8] (fun v i wr => ∃ k : Nat, k ≤ n ∧ i = .int .i64 k ∧ Below w.heap.size w wr ∧ Hid (∀ x ∈ l.take k, p x.1 = false)) (fun _ i _ => n - (intOf i).toNat)
  case atStart => exact ⟨0, Nat.zero_le _, rfl, Below.refl _ _, by intro x hx; simp at hx⟩
  case round =>
    obtain ⟨k, hk, rfl, hb, HN⟩ := hrel
    by_cases hlt : k < n
    · have hk2 : k < l.length := by rw [HL.out]; exact hlt
      obtain ⟨b, off, rfl, hfb, c0, c1, c2, c3, c4⟩ := scAt (HV.out.below hb HF.out) k hk2
      have hmem := List.getElem_mem hk2
      obtain ⟨A4, n4, cc4, h4⟩ := HFO.out _ hmem
      have HNX := Lib.hid (fun (h : p (l[k]'hk2).1 = false) => take_next (q := fun x => p x.1 = false) hk2 HN.out h)
      have HAT := Lib.hid (fun (h : p (l[k]'hk2).1 = true) => findIdx_at (p := fun x => p x.1) HN.out hk2 h)
      have HPX := Lib.hid (HP.out _ hmem wr hb)
      rw [h4] at c4 HPX
      clear h4 hmem
      generalize (l[k]'hk2).1 = x at *
      have HBB := Lib.hid hb
      clear hk2 HN hb
      cases hv : p x
      all_goals
        have HV := Lib.hid hv; clear hv
        go_wp2_with fail
        refine HPX.out.mono ?_
        rintro e w' ⟨rfl, hb'⟩
        have HB2 := Lib.hid (HBB.out.trans (hb'.mono HBB.out.size))
        clear hb'
        rw [HV.out]
        go_wp2
      · go_roundw
        case rel => exact ⟨k + 1, by omega, intNum, HB2.out, HNX.out HV.out⟩
        case measure => simp [intOf]; omega
      · go_ret
        exact ⟨by rw [HAT.out HV.out]; rfl, HB2.out⟩
    · go_wp2
      go_ret
      have H := findIdx_no (take_all (q := fun x : Scene × Value => p x.1 = false) (by rw [HL.out]; exact hlt) HN.out)
      exact ⟨by rw [H]; rfl, hb⟩
set_option maxHeartbeats 800000 in
theorem contScn_c {F : Nat → Prop} (l : List (Scene × Value)) (A : Option Addr) (c g n : Nat) (cb : Array Value) (p : Scene → Bool) (w : World) (hn : l.length = n) (hv : Sli svR w F l (.slice A n c)) (hF : ∀ b, F b → b < w.heap.size) (hf : ∀ x ∈ l, ∃ A n c, x.2 = .slice A n c) (hlen : l.length ≤ 1000000)
    (hp : PredT Tryz.prog g cb l p w) :
    Calls Tryz.prog 54 #[.slice A n c, .func (.func g) #[] cb] w fun e w' => e = .returned (.bool (l.any fun x => p x.1)) ∧ Below w.heap.size w w' := by
  have HI := Lib.hid (idxV_any (fun x : Scene × Value => p x.1) l)
  go_enter Tryz.func54, Tryz.ntmps54
  go_wp2_with fail
  refine (idxScn_c l A c g n cb p _ hn hv hF hf hlen hp).mono ?_
  rintro e w' ⟨rfl, hb⟩
  go_wp2
  go_ret
  exact ⟨ret_bool HI.out, hb⟩
set_option maxHeartbeats 800000 in
theorem ren11_p {F : Nat → Prop} (l : List (Scene × Value)) (s : ByteArray) (b : Nat) (w : World) (h : w.cell? ⟨b, 0, none⟩ = some (.string s)) (hlt : b < w.heap.size) (hv : ∀ y ∈ l, Sli paraR w F y.1.paras y.2) (hF : ∀ b, F b → b < w.heap.size) (hl : ∀ y ∈ l, y.1.paras.length ≤ 100000) :
    PredT Tryz.prog 55 #[.pointer (some ⟨b, 0, none⟩)] l (fun x => hcB x.paras s) w := by
  refine ⟨fun _ _ => by kernel_rfl, fun y hy W hb => ?_⟩
  have hc := cellC h hb hlt
  have hz := hb.size
  have hbw : b < W.heap.size := by omega
  have hs := (hv y hy).below hb hF
  have hpl := hl y hy
  obtain ⟨x, v⟩ := y
  dsimp only at hs hpl ⊢
  obtain ⟨A, c, rfl, _, _⟩ := hs.form
  have HB := Lib.hid ((Below.refl W.heap.size W).alloc (Nat.le_refl _) (.cells #[.string x.no, .int .i64 x.place, .string x.set, .int .i64 x.time, .slice A x.paras.length c] 71))
  have HHC := Lib.hid (hasCue_c x (.slice A x.paras.length c) s (W.alloc (.cells #[.string x.no, .int .i64 x.place, .string x.set, .int .i64 x.time, .slice A x.paras.length c] 71)) (hs.alloc _ (fun q hq => by have := hF q hq; omega)) (fun q hq => by have := hF q hq; have := HB.out.size; omega) (by omega))
  obtain ⟨gx, _⟩ := str_cells (heap_alloc_new W (.cells #[.string x.no, .int .i64 x.place, .string x.set, .int .i64 x.time, .slice A x.paras.length c] 71))
  have x0 : (W.alloc (.cells #[.string x.no, .int .i64 x.place, .string x.set, .int .i64 x.time, .slice A x.paras.length c] 71)).cell? ⟨W.heap.size, 0, none⟩ = some (.string x.no) := gx 0
  have x1 : (W.alloc (.cells #[.string x.no, .int .i64 x.place, .string x.set, .int .i64 x.time, .slice A x.paras.length c] 71)).cell? ⟨W.heap.size, 1, none⟩ = some (.int .i64 x.place) := gx 1
  have x2 : (W.alloc (.cells #[.string x.no, .int .i64 x.place, .string x.set, .int .i64 x.time, .slice A x.paras.length c] 71)).cell? ⟨W.heap.size, 2, none⟩ = some (.string x.set) := gx 2
  have x3 : (W.alloc (.cells #[.string x.no, .int .i64 x.place, .string x.set, .int .i64 x.time, .slice A x.paras.length c] 71)).cell? ⟨W.heap.size, 3, none⟩ = some (.int .i64 x.time) := gx 3
  have x4 : (W.alloc (.cells #[.string x.no, .int .i64 x.place, .string x.set, .int .i64 x.time, .slice A x.paras.length c] 71)).cell? ⟨W.heap.size, 4, none⟩ = some (.slice A x.paras.length c) := gx 4
  have hcn : (W.alloc (.cells #[.string x.no, .int .i64 x.place, .string x.set, .int .i64 x.time, .slice A x.paras.length c] 71)).cell? ⟨b, 0, none⟩ = some (.string s) := (World.cell?_alloc_lt W _ ⟨b, 0, none⟩ hbw).trans hc
  clear h hb hlt hv hF hs gx hc
  show Calls Tryz.prog _ #[.agg #[.string x.no, .int .i64 x.place, .string x.set, .int .i64 x.time, .slice A x.paras.length c], .pointer (some ⟨b, 0, none⟩)] W _
  go_enter Tryz.func55, Tryz.ntmps55
  go_upto_region 1 with (fail)
  generalize W.alloc (.cells #[.string x.no, .int .i64 x.place, .string x.set, .int .i64 x.time, .slice A x.paras.length c] 71) = w1 at *
  go_wp2_with fail
  refine HHC.out.mono ?_
  rintro e w2 ⟨rfl, hb2⟩
  have HE := Lib.hid (HB.out.trans (hb2.mono HB.out.size))
  clear hb2
  go_wp2
  go_ret
  exact ⟨rfl, HE.out⟩
set_option maxHeartbeats 800000 in
/-- script.Rename's question. -/
theorem ren1_c {F : Nat → Prop} (t : ByteArray) (ls : List (Scene × Value)) (v : Value) (s : ByteArray) (B : Nat) (w : World) (h : Sc2 w F ls v) (hl : ls.length ≤ 1000) (hl2 : ∀ y ∈ ls, y.1.paras.length ≤ 100000) (h0 : w.cell? ⟨B, 0, none⟩ = some (.string t)) (h1 : w.cell? ⟨B, 1, none⟩ = some v) (hlt : B < w.heap.size) :
    Calls Tryz.prog 53 #[.string s, .pointer (some ⟨B, 0, none⟩)] w fun e w' => e = .returned (.bool (hasB (ls.map (·.1)) s)) ∧ Below w.heap.size w w' := by
  obtain ⟨A, c, rfl, _, _⟩ := h.sli.form
  have HB := Lib.hid ((Below.refl w.heap.size w).alloc (Nat.le_refl _) (.cells #[.string s] 9))
  have hz : (w.alloc (.cells #[.string s] 9)).heap.size = w.heap.size + 1 := by simp
  have hx : (w.alloc (.cells #[.string s] 9)).cell? ⟨w.heap.size, 0, none⟩ = some (.string s) := (str_cells (heap_alloc_new w (.cells #[.string s] 9))).1 0
  have h1' : (w.alloc (.cells #[.string s] 9)).cell? ⟨B, 1, none⟩ = some (.slice A ls.length c) := (World.cell?_alloc_lt w _ ⟨B, 1, none⟩ hlt).trans h1
  have h2 := h.below HB.out
  have HCS := Lib.hid (contScn_c ls A c 55 ls.length #[.pointer (some ⟨w.heap.size, 0, none⟩)] (fun x => hcB x.paras s) (w.alloc (.cells #[.string s] 9)) rfl h2.sli h2.lt (sli_forms h2.par) (by omega) (ren11_p ls s w.heap.size _ hx (by rw [hz]; omega) h2.par h2.lt hl2))
  have HR := Lib.hid (show (ls.any fun x => hcB x.1.paras s) = hasB (ls.map (·.1)) s by unfold hasB; rw [List.any_map]; rfl)
  clear h h0 h1 h2 hl2 hx hz
  go_enter Tryz.func53, Tryz.ntmps53
  go_upto_region 1 with (fail)
  generalize w.alloc (.cells #[.string s] 9) = w1 at *
  go_wp2_with fail
  refine HCS.out.mono ?_
  rintro e w2 ⟨rfl, hb2⟩
  have HE := Lib.hid (HB.out.trans (hb2.mono HB.out.size))
  clear hb2 HCS
  go_wp2
  go_ret
  exact ⟨ret_bool HR.out, HE.out⟩
set_option maxHeartbeats 400000 in
theorem ro11_p (s : ByteArray) (b : Nat) (w : World) (h : w.cell? ⟨b, 0, none⟩ = some (.string s)) (hlt : b < w.heap.size) :
    PredC Tryz.prog 62 #[.pointer (some ⟨b, 0, none⟩)] Rx.val (fun y => decide (y.nm = s)) w := by
  refine ⟨fun _ _ => by kernel_rfl, fun x W hb => ?_⟩
  have hc : W.cell? ⟨b, 0, none⟩ = some (.string s) := (hb.cell (p := ⟨b, 0, none⟩) hlt).trans h
  have hs := hb.size
  have hl : b < W.heap.size := by omega
  clear h hb hlt hs
  show Calls Tryz.prog _ #[.agg #[.string x.nm, .int .i64 x.sc, .int .i64 x.sp, .int .i64 x.wd], .pointer (some ⟨b, 0, none⟩)] W _
  go_enter Tryz.func62, Tryz.ntmps62
  go_wp2
  go_ret
  exact ⟨ret_bool (beqS _ _), (Below.refl _ _).alloc (Nat.le_refl _) _⟩
theorem contRole_c {F : Nat → Prop} (l : List Rx) (v : Value) (g : Nat) (cb : Array Value) (p : Rx → Bool) (w : World) (hv : Sli rxR w F l v) (hF : ∀ b, F b → b < w.heap.size) (hlen : l.length ≤ 1000000000)
    (hp : PredC Tryz.prog g cb Rx.val p w) :
    Calls Tryz.prog 61 #[v, .func (.func g) #[] cb] w fun e w' => e = .returned (.bool (l.any p)) ∧ Below w.heap.size w w' := by
  have HI := Lib.hid (idxRole_c l v g cb p w hv hF hlen hp)
  have HZ := Lib.hid (idx_any l p)
  obtain ⟨A, c, rfl, _, _⟩ := hv.form
  generalize l.findIdx? p = z at *
  clear hv hF hp
  go_enter Tryz.func61, Tryz.ntmps61
  go_wp2_with fail
  refine HI.out.mono ?_
  rintro e w2 ⟨rfl, hb2⟩
  have HE := Lib.hid hb2
  clear hb2 HI
  generalize idxV z = i at *
  go_wp2
  go_ret
  exact ⟨ret_bool HZ.out, HE.out⟩
set_option maxHeartbeats 800000 in
/-- R.RenameOf's question. -/
theorem ro1_c {F : Nat → Prop} (t : ByteArray) (ls : List (Scene × Value)) (v : Value) (s : ByteArray) (B : Nat) (w : World) (h : Sc2 w F ls v) (hB : FdB (ls.map (·.1))) (hr : ∀ x ∈ ls.map (·.1), RtP x.paras) (h0 : w.cell? ⟨B, 0, none⟩ = some (.string t)) (h1 : w.cell? ⟨B, 1, none⟩ = some v) (hlt : B < w.heap.size) :
    Calls Tryz.prog 60 #[.string s, .pointer (some ⟨B, 0, none⟩)] w fun e w' => e = .returned (.bool (hasB (ls.map (·.1)) s)) ∧ Below w.heap.size w w' := by
  obtain ⟨A, c, rfl, _, _⟩ := h.sli.form
  have HB := Lib.hid ((Below.refl w.heap.size w).alloc (Nat.le_refl _) (.cells #[.string s] 9))
  have hz : (w.alloc (.cells #[.string s] 9)).heap.size = w.heap.size + 1 := by simp
  have hx : (w.alloc (.cells #[.string s] 9)).cell? ⟨w.heap.size, 0, none⟩ = some (.string s) := (str_cells (heap_alloc_new w (.cells #[.string s] 9))).1 0
  have h0' : (w.alloc (.cells #[.string s] 9)).cell? ⟨B, 0, none⟩ = some (.string t) := (World.cell?_alloc_lt w _ ⟨B, 0, none⟩ hlt).trans h0
  have h1' : (w.alloc (.cells #[.string s] 9)).cell? ⟨B, 1, none⟩ = some (.slice A ls.length c) := (World.cell?_alloc_lt w _ ⟨B, 1, none⟩ hlt).trans h1
  have HCO := Lib.hid (CastOf_c t ls (.slice A ls.length c) (w.alloc (.cells #[.string s] 9)) (h.below HB.out) hB hr)
  have hlen := (castN_ok (xs := ls.map (·.1)) hB.2 (ls.map (·.1)).length).len
  have hl := hB.1
  have HLE := Lib.hid (show (castS (ls.map (·.1))).length ≤ 1000000000 by
    have h1 : (castS (ls.map (·.1))).length ≤ 100000 * (ls.map (·.1)).length := hlen
    omega)
  have HR := Lib.hid (show ((castS (ls.map (·.1))).any fun y => decide (y.nm = s)) = hasB (ls.map (·.1)) s from spk_cast _ _)
  have HX := Lib.hid hx
  have HZ := Lib.hid hz
  clear h h0 h1 hr hx hz hB hlen hl
  go_enter Tryz.func60, Tryz.ntmps60
  go_upto_region 1 with (fail)
  generalize w.alloc (.cells #[.string s] 9) = w1 at *
  go_wp2_with fail
  refine HCO.out.mono ?_
  rintro e w2 ⟨v2, rfl, hb2, hown2⟩
  have hx2 : w2.cell? ⟨w.heap.size, 0, none⟩ = some (.string s) := (hb2.cell (p := ⟨w.heap.size, 0, none⟩) (by have := HZ.out; dsimp only; omega)).trans HX.out
  have hz2 : w.heap.size < w2.heap.size := by have := HZ.out; have := hb2.size; omega
  have HCR := Lib.hid (contRole_c (F := fun q => q < w2.heap.size) (castS (ls.map fun x : Scene × Value => x.1)) v2 62 #[.pointer (some ⟨w.heap.size, 0, none⟩)] (fun y => decide (y.nm = s)) w2 (hown2.sliF (enc := Rx.cells) (hn := fun _ => rfl) (fun g hg => (hown2.block g hg).2)) (fun q hq => hq) HLE.out (ro11_p s w.heap.size w2 hx2 hz2))
  have HB2 := Lib.hid (HB.out.trans (hb2.mono HB.out.size))
  clear hb2 hown2 hx2 hz2 HCO
  go_wp2_with fail
  refine HCR.out.mono ?_
  rintro e w3 ⟨rfl, hb3⟩
  have HE := Lib.hid (HB2.out.trans (hb3.mono HB2.out.size))
  clear hb3 HCR
  go_wp2
  go_ret
  exact ⟨ret_bool HR.out, HE.out⟩
end Go.Proofs.YtkhegeobdcemkaaGreatDoor

