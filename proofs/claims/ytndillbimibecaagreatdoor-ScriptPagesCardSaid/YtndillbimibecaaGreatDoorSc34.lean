/- Texts packed: RdE. -/
import Derived.Test.YtndillbimibecaaGreatDoorSc33
import Derived.Test.YtndillbimibecaaGreatDoorSc22
/- script.Read, walked. -/
namespace Go.Proofs.YtndillbimibecaaGreatDoor
set_option linter.unusedVariables false
open Go.RowKit Go.Sort

theorem results_cell_tmp2 {fn : Func} {p u x : Tmp} {ty : TypeId} (h : fn.results = #[.cell p ty, .tmp u, .tmp x]) (tmps : Array Value) (P : Program) (w : World) :
    (results fn tmps).run P w =
      ((asAddr (tmps.getD p undef)).run P w).andThen fun a w₁ => ((loadVar ty a).run P w₁).andThen fun v w₂ => .ok (.tuple #[v, tmps.getD u undef, tmps.getD x undef]) w₂ := by
  simp only [results, h]
  simp [Sem.run_bind, Result.andThen]
def ReP (text : ByteArray) (w : World) (e : Ending) (w' : World) : Prop := ∃ (l : List (Scene × Value)) (v : Value), e = .returned (.tuple #[.agg #[.string (readS text).1.title, v], .int .i64 ((readS text).2.1 : Nat), .int .i64 (readS text).2.2])
  ∧ l.map (·.1) = (readS text).1.scenes ∧ Sli svR w' (fun q => w.heap.size ≤ q ∧ q < w'.heap.size) l v ∧ (∀ y ∈ l, Sli paraR w' (fun q => w.heap.size ≤ q ∧ q < w'.heap.size) y.1.paras y.2) ∧ Below w.heap.size w w'
theorem ReP.err {text : ByteArray} {w w' : World} {k : Nat} {e : Int} (h : readS text = (zeroX, k, e)) (hb : Below w.heap.size w w') : ReP text w (.returned (.tuple #[.agg #[.string ⟨#[]⟩, .slice none 0 0], .int .i64 (k : Nat), .int .i64 e])) w' :=
  ⟨[], .slice none 0 0, by rw [h]; rfl, by rw [h]; rfl, Sli.nil_, (fun y hy => by cases hy), hb⟩
theorem linesR_some {L : List ByteArray} {k : Nat} {r r' : Rd} (hk : k < L.length) (h : lineR r L[k] = some r') : linesR k r (L.drop k) = linesR (k + 1) r' (L.drop (k + 1)) := by
  rw [List.drop_eq_getElem_cons hk, linesR, h]
theorem linesR_none {L : List ByteArray} {k : Nat} {r : Rd} (hk : k < L.length) (h : lineR r L[k] = none) : linesR k r (L.drop k) = .inr k := by
  rw [List.drop_eq_getElem_cons hk, linesR, h]
theorem linesR_end {L : List ByteArray} {k : Nat} {r : Rd} (hk : ¬ k < L.length) : linesR k r (L.drop k) = .inl r := by
  rw [List.drop_eq_nil_of_le (by omega), linesR]
theorem firstR_yes {L : List ByteArray} (hk : 0 < L.length) (h : Lib.hasPrefix L[0].data.toList (⟨#[116, 105, 116, 108, 101, 58, 32]⟩ : ByteArray).data.toList = true) : firstR L = linesR 1 ⟨L[0].extract 7 L[0].size, [], 0⟩ (L.drop 1) := by
  cases L with
  | nil => exact absurd hk (by decide)
  | cons s l => exact if_pos h
theorem firstR_no {L : List ByteArray} (hk : 0 < L.length) (h : Lib.hasPrefix L[0].data.toList (⟨#[116, 105, 116, 108, 101, 58, 32]⟩ : ByteArray).data.toList = false) : firstR L = .inr 0 := by
  cases L with
  | nil => exact absurd hk (by decide)
  | cons s l => exact if_neg (by rw [show (s :: l)[0] = s from rfl] at h; rw [h]; decide)
/-- Where the reading stands behind k lines. -/
def ReI (Lm : List ByteArray) (k : Nat) (t : ByteArray) (l : List (Scene × Value)) (wh : Int) : Prop :=
  ((k = 0 ∧ l = [] ∧ wh = 0 ∧ t = ⟨#[]⟩) ∨ (1 ≤ k ∧ firstR Lm = linesR k ⟨t, l.map (·.1), wh⟩ (Lm.drop k))) ∧ RdB k l ∧ RdI 200000 ⟨t, l.map (·.1), wh⟩
theorem ReI.start (Lm : List ByteArray) : ReI Lm 0 ⟨#[]⟩ [] 0 := ⟨.inl ⟨rfl, rfl, rfl, rfl⟩, ⟨by decide, fun x hx => by cases hx⟩, ⟨.inl rfl, fun h => by rcases h with h | h | h <;> exact absurd h (by decide), Nat.zero_le _, fun x hx => by cases hx⟩⟩
theorem ReI.yes {Lm : List ByteArray} (hk : 0 < Lm.length) (hs : Lm[0].size ≤ 200000) (h : Lib.hasPrefix Lm[0].data.toList (⟨#[116, 105, 116, 108, 101, 58, 32]⟩ : ByteArray).data.toList = true) : ReI Lm 1 (Lm[0].extract 7 Lm[0].size) [] 0 :=
  ⟨.inr ⟨Nat.le_refl _, firstR_yes hk h⟩, ⟨by decide, fun x hx => by cases hx⟩, ⟨.inl rfl, fun h => by rcases h with h | h | h <;> exact absurd h (by dsimp only; decide), Nat.le_trans (ext_le _ _ _) hs, fun x hx => by cases hx⟩⟩
theorem ReI.next {Lm : List ByteArray} {k : Nat} {t : ByteArray} {l l' : List (Scene × Value)} {wh : Int} {r : Rd} (h : ReI Lm k t l wh) (hk1 : 1 ≤ k) (hk : k < Lm.length) (hs : Lm[k].size ≤ 200000) (he : lineR ⟨t, l.map (·.1), wh⟩ Lm[k] = some r) (hl : r.scenes = l'.map (·.1)) (hb : RdB (k + 1) l') : ReI Lm (k + 1) r.title l' r.wh := by
  have er : r = ⟨r.title, l'.map (·.1), r.wh⟩ := by rw [← hl]
  refine ⟨.inr ⟨by omega, ?_⟩, hb, ?_⟩
  · rcases h.1 with ⟨h0, _⟩ | ⟨_, h1⟩
    · omega
    · rw [← er, h1]; exact linesR_some hk he
  · rw [← er]; exact lineR_inv h.2.2 hs he
theorem ReI.stop {Lm : List ByteArray} {k : Nat} {t : ByteArray} {l : List (Scene × Value)} {wh : Int} (h : ReI Lm k t l wh) (hk1 : 1 ≤ k) (hk : k < Lm.length) (he : lineR ⟨t, l.map (·.1), wh⟩ Lm[k] = none) : firstR Lm = .inr k := by
  rcases h.1 with ⟨h0, _⟩ | ⟨_, h1⟩
  · omega
  · rw [h1]; exact linesR_none hk he
theorem ReI.end_ {Lm : List ByteArray} {k : Nat} {t : ByteArray} {l : List (Scene × Value)} {wh : Int} (h : ReI Lm k t l wh) (hk : ¬ k < Lm.length) : firstR Lm = .inl ⟨t, l.map (·.1), wh⟩ := by
  rcases h.1 with ⟨h0, rfl, rfl, rfl⟩ | ⟨_, h1⟩
  · have : Lm = [] := List.eq_nil_of_length_eq_zero (by omega)
    subst this; rfl
  · rw [h1]; exact linesR_end hk
theorem words2_c {s : ByteArray} {c : UInt8} {W : List ByteArray} {M : Nat} (w : World) (hW : words s c = W) (hM : W.length = M + 1) (hs : s.size ≤ 4000000000) (hm : MaxLaid w) : Calls Tryz.prog 51 #[.string s, .string ⟨#[c]⟩] w fun e w' =>
    e = .returned (.slice (some ⟨w.heap.size, 0, none⟩) (M + 1) (M + 1)) ∧ Sli strR w' (fun b => b = w.heap.size) W (.slice (some ⟨w.heap.size, 0, none⟩) (M + 1) (M + 1)) ∧ Below w.heap.size w w' ∧ w'.heap.size = w.heap.size + 1 := by
  subst hW
  have h := words_c s c w hs hm
  unfold WordsP at h
  rw [hM] at h
  exact h
/-- The reading's end, by cases. -/
theorem readS_wrong {text : ByteArray} {k : Nat} (h1 : ¬ 200000 < text.size) (h2 : firstR ((words text 10).take ((words text 10).length - 1)) = .inr k) : readS text = (zeroX, k, 9) := by
  unfold readS; rw [if_neg h1, h2]
theorem readS_right {text : ByteArray} {r : Rd} (h1 : ¬ 200000 < text.size) (h2 : firstR ((words text 10).take ((words text 10).length - 1)) = .inl r) : readS text =
      if (words text 10).length = 1 ∨ ¬ ((words text 10).getLast?.getD ⟨#[]⟩).size = 0 ∨ r.wh = 1 ∨ r.wh = 2 then (zeroX, (words text 10).length - 1, 9)
      else if ¬ chkE ⟨r.title, r.scenes⟩ = 0 then (zeroX, 0, chkE ⟨r.title, r.scenes⟩)
      else if ¬ textS ⟨r.title, r.scenes⟩ = text then (zeroX, 0, 9)
      else (⟨r.title, r.scenes⟩, 0, 0) := by
  unfold readS; rw [if_neg h1, h2]
theorem strCell {w : World} {F : Nat → Prop} {l : List ByteArray} {B n c : Nat} (h : Sli strR w F l (.slice (some ⟨B, 0, none⟩) n c)) (k : Nat) (hk : k < l.length) : w.cell? ⟨B, k, none⟩ = some (.string l[k]) := by
  obtain ⟨b, off, a, e, hb, hr, hc⟩ := h.at_ k hk
  injection e with e
  injection e with e1 e2
  subst e1; subst e2
  have hea : a = [.string l[k]] := hr
  subst hea
  have := hc 0 _ rfl
  simpa [strR, Rep.flat] using this
theorem readS_w {text : ByteArray} {W : List ByteArray} {M k : Nat} (hW : words text 10 = W) (hM : W.length = M + 1) (h1 : ¬ 200000 < text.size) (h2 : firstR (W.take M) = .inr k) : readS text = (zeroX, k, 9) := by
  refine readS_wrong h1 ?_
  rw [hW, hM, Nat.add_sub_cancel]; exact h2
theorem readS_r {text : ByteArray} {W : List ByteArray} {M : Nat} {r : Rd} {s : ByteArray} (hW : words text 10 = W) (hM : W.length = M + 1) (hs : W[M]? = some s) (h1 : ¬ 200000 < text.size) (h2 : firstR (W.take M) = .inl r) : readS text =
      if M = 0 ∨ ¬ s.size = 0 ∨ r.wh = 1 ∨ r.wh = 2 then (zeroX, M, 9)
      else if ¬ chkE ⟨r.title, r.scenes⟩ = 0 then (zeroX, 0, chkE ⟨r.title, r.scenes⟩)
      else if ¬ textS ⟨r.title, r.scenes⟩ = text then (zeroX, 0, 9)
      else (⟨r.title, r.scenes⟩, 0, 0) := by
  rw [readS_right h1 (by rw [hW, hM, Nat.add_sub_cancel]; exact h2), hW, hM, Nat.add_sub_cancel, List.getLast?_eq_getElem?, hM, Nat.add_sub_cancel, hs, Option.getD_some]
  have e : (M + 1 = 1 ∨ ¬ s.size = 0 ∨ r.wh = 1 ∨ r.wh = 2) ↔ (M = 0 ∨ ¬ s.size = 0 ∨ r.wh = 1 ∨ r.wh = 2) := or_congr_left (by omega)
  by_cases hc : M = 0 ∨ ¬ s.size = 0 ∨ r.wh = 1 ∨ r.wh = 2
  · rw [if_pos (e.2 hc), if_pos hc]
  · rw [if_neg (fun h => hc (e.1 h)), if_neg hc]
/-- What has been read, as the check wants it. -/
theorem rd_scL {w wx : World} {R0 N m : Nat} {t : ByteArray} {l : List (Scene × Value)} {v : Value} {wh : Int} (h : RdG w R0 t l v wh wx) (hi : RdI N ⟨t, l.map (·.1), wh⟩) (hN : N ≤ 1000000) (hb : RdB m l) (hm : m ≤ 1000000) : ScL wx (fun q => w.heap.size ≤ q ∧ q < wx.heap.size) t l v := by
  refine ⟨h.bo.own.sliF fun g hg => h.bo.own.block g hg, fun y hy => ?_, fun q hq => hq.2, Nat.le_trans hi.ts hN, Nat.le_trans hb.1 hm, fun y hy => ?_⟩
  · obtain ⟨i, hi⟩ := List.mem_iff_getElem?.1 hy
    have hr := (h.row i y hi).1
    exact hr.sliF fun g hg => hr.block g hg
  · obtain ⟨h1, h2, h3⟩ := hi.sz _ (List.mem_map.2 ⟨y, hy, rfl⟩)
    exact ⟨Nat.le_trans h1 hN, Nat.le_trans h2 hN, Nat.le_trans (hb.2 y hy) hm, fun p hp => Nat.le_trans (h3 p hp) hN⟩
theorem ReP.ok {text : ByteArray} {w wx w' : World} {t : ByteArray} {l : List (Scene × Value)} {v : Value} {F : Nat → Prop} (h : readS text = (⟨t, l.map (·.1)⟩, 0, 0)) (hs : ScL wx F t l v) (hF : ∀ q, F q → w.heap.size < q) (hb : Below w.heap.size w w') (hz : wx.heap.size ≤ w'.heap.size) (hk : ∀ b, b < wx.heap.size → b ≠ w.heap.size → w'.heap[b]? = wx.heap[b]?) :
    ReP text w (.returned (.tuple #[.agg #[.string t, v], .int .i64 ((0 : Nat) : Int), .int .i64 0])) w' := by
  have hk2 : ∀ q, F q → w'.heap[q]? = wx.heap[q]? := fun q hq => hk q (hs.lt q hq) (by have := hF q hq; omega)
  have hmo : ∀ q, F q → w.heap.size ≤ q ∧ q < w'.heap.size := fun q hq => ⟨by have := hF q hq; omega, Nat.lt_of_lt_of_le (hs.lt q hq) hz⟩
  exact ⟨l, v, by rw [h], by rw [h], (hs.sli.keep hk2).more hmo, fun y hy => ((hs.par y hy).keep hk2).more hmo, hb⟩
set_option maxRecDepth 100000 in
set_option maxHeartbeats 16000000 in
theorem Read_c (text : ByteArray) (w : World) (hs : text.size ≤ 4000000000) (hm : MaxLaid w) : Calls Tryz.prog 23 #[.string text] w (ReP text w) := by
  have HM := Lib.hid hm
  have hb0 := (Below.refl w.heap.size w).alloc (Nat.le_refl _) (.cells #[.string ⟨#[]⟩, .slice none 0 0] 28)
  have hy0 := heap_alloc_new w (.cells #[.string ⟨#[]⟩, .slice none 0 0] 28)
  have hz0 : w.heap.size < (w.alloc (.cells #[.string ⟨#[]⟩, .slice none 0 0] 28)).heap.size := by simp
  clear hm
  by_cases hl : 200000 < text.size
  · have HR := Lib.hid (show readS text = (zeroX, 0, 2) from if_pos hl)
    have hl' : (200000 : Int) < text.size := by omega
    have HB := Lib.hid hb0
    clear hl hb0 hy0 hz0
    go_enter Tryz.func23, Tryz.ntmps23
    go_wp2
    refine ⟨rfl, .tuple #[.agg #[.string ⟨#[]⟩, .slice none 0 0], .int .i64 ((0 : Nat) : Int), .int .i64 2], (by rw [results_cell_tmp2 rfl]; go_simp), ?_⟩
    refine ReP.err HR.out ?_
    repeat (first | exact HB.out | refine Below.setCell ?_ (by first | exact Nat.le_refl _ | (dsimp only; omega)) _)
  have hl' : (text.size : Int) ≤ 200000 := by omega
  go_enter Tryz.func23, Tryz.ntmps23
  go_upto_region 3 with (fail)
  generalize w.alloc (.cells #[.string ⟨#[]⟩, .slice none 0 0] 28) = w1 at *
  have HB1 := Lib.hid hb0
  have HY1 := Lib.hid hy0
  have hwl := words_len text 10
  have hwle := words_le text 10
  have HWS := Lib.hid (fun s (h : s ∈ words text 10) => words_size h)
  obtain ⟨W, hW⟩ : ∃ W, words text 10 = W := ⟨_, rfl⟩
  rw [hW] at hwl hwle
  have HWS2 := Lib.hid (fun s (h : s ∈ W) => HWS.out s (by rw [hW]; exact h))
  obtain ⟨M, hM⟩ : ∃ M, W.length = M + 1 := ⟨W.length - 1, by omega⟩
  have HRW2 := Lib.hid (fun k (h : firstR (W.take M) = .inr k) => readS_w hW hM hl h)
  have HRR2 := Lib.hid (fun s r (hs : W[M]? = some s) (h : firstR (W.take M) = .inl r) => readS_r hW hM hs hl h)
  have HWD := Lib.hid (words2_c w1 hW hM hs (max_below HM.out hb0 (Nat.le_refl _)))
  have HWE := Lib.hid hW
  have HWL := Lib.hid hM
  have hM1 : M ≤ 200000 := by omega
  clear HWS hW hM hwl hwle hb0 hy0 hl
  go_wp2_with fail
  refine HWD.out.mono ?_
  rintro e w2 ⟨rfl, hsl, hb2, hz2e⟩
  have hz2 : w1.heap.size < w2.heap.size := by omega
  clear hz2e
  have HSL := Lib.hid hsl
  have HB2 := Lib.hid (HB1.out.trans (hb2.mono (by omega)))
  have HY2 := Lib.hid ((hb2.block w.heap.size (by omega)).trans HY1.out)
  clear hsl hb2 HWD HB1 HY1
  go_upto_region 6 with (fail)
  have hG : RdG w2 w2.heap.size ⟨#[]⟩ [] (.slice none 0 0) 0 (w2.alloc (.cells #[.string ⟨#[]⟩, .slice none 0 0, .int .i64 0] 97)) := (NS.start w2).new (rdCs ⟨#[]⟩ (.slice none 0 0) 0) 97
  generalize w2.alloc (.cells #[.string ⟨#[]⟩, .slice none 0 0, .int .i64 0] 97) = w3 at *
  have HG := Lib.hid hG
  clear hG
  have hR : w.heap.size < w2.heap.size := by omega
  have hW1 : w1.heap.size < w2.heap.size := by omega
  have hne1 : ¬ w2.heap.size = w.heap.size := by omega
  have hne2 : ¬ w.heap.size = w2.heap.size := by omega
  clear hz0 hz2
  obtain ⟨Lm, hLm⟩ : ∃ Lm, W.take M = Lm := ⟨_, rfl⟩
  have HLM := Lib.hid (show Lm.length = M by rw [← hLm, List.length_take, HWL.out]; omega)
  have HLK := Lib.hid (fun (k : Nat) (hk : k < W.length) (hk2 : k < Lm.length) => show Lm[k] = W[k] by subst hLm; rw [List.getElem_take])
  have HRW := Lib.hid (fun k (h : firstR Lm = .inr k) => HRW2.out k (by rw [hLm]; exact h))
  have HRR := Lib.hid (fun s r (hs : W[M]? = some s) (h : firstR Lm = .inl r) => HRR2.out s r hs (by rw [hLm]; exact h))
  have HRS := Lib.hid (fun (X : World) (hb : Below w2.heap.size w2 X) => show (X.cell? ⟨w.heap.size, 0, none⟩ = some (.string ⟨#[]⟩) ∧ X.cell? ⟨w.heap.size, 1, none⟩ = some (.slice none 0 0)) ∧ X.frozen? ⟨w.heap.size, 0, none⟩ = false ∧ X.frozen? ⟨w.heap.size, 1, none⟩ = false by
    obtain ⟨y, f⟩ := str_cells ((hb.block w.heap.size hR).trans HY2.out)
    exact ⟨⟨y 0, y 1⟩, f 0, f 1⟩)
  have HBE := Lib.hid (fun (X : World) (hb : Below w2.heap.size w2 X) => HB2.out.trans (hb.mono (Nat.le_of_lt hR)))
  have HMX := Lib.hid (fun (X : World) (hb : Below w2.heap.size w2 X) => max_below HM.out (HBE.out X hb) (Nat.le_refl _))
  clear HRW2 HRR2 hLm HY2 HB2 HM
  go_wp2
  go_loopw [27] (fun i wr => ∃ (k : Nat) (t : ByteArray) (l : List (Scene × Value)) (v : Value) (wh : Int), k ≤ M ∧ i = .int .i64 k ∧ Hid (ReI Lm k t l wh) ∧ Hid (RdG w2 w2.heap.size t l v wh wr)) (fun i _ => M - (intOf i).toNat)
  case atStart => exact ⟨0, ⟨#[]⟩, [], .slice none 0 0, 0, Nat.zero_le _, rfl, ReI.start _, HG⟩
  case round =>
    clear HG
    obtain ⟨k, t, l, v, wh, hk, rfl, HI, HG⟩ := hrel
    have HBW := Lib.hid HG.out.bo.bel
    obtain ⟨⟨yr0, yr1⟩, fr0, fr1⟩ := HRS.out wr HBW.out
    have g0 := (HG.out.cell (p := (w2.heap.size, rdCs t v wh, 97)) (by simp)).1
    have gf := (HG.out.cell (p := (w2.heap.size, rdCs t v wh, 97)) (by simp)).2
    have r0 : wr.cell? ⟨w2.heap.size, 0, none⟩ = some (.string t) := g0 0
    have r1 : wr.cell? ⟨w2.heap.size, 1, none⟩ = some v := g0 1
    have r2 : wr.cell? ⟨w2.heap.size, 2, none⟩ = some (.int .i64 wh) := g0 2
    have rf0 : wr.frozen? ⟨w2.heap.size, 0, none⟩ = false := gf 0
    clear g0 gf
    by_cases hlt : k < M
    · have hkW : k < W.length := by rw [HWL.out]; omega
      have c0 := strCell (HSL.out.below HBW.out (fun q hq => by omega)) k hkW
      have hsz := HWS2.out _ (List.getElem_mem hkW)
      have hkL : k < Lm.length := by rw [HLM.out]; exact hlt
      have hLS := HLK.out k hkW hkL
      have HKL := Lib.hid hkL
      generalize W[k]'hkW = s at *
      have hs2 : s.size ≤ 200000 := by omega
      have HLS := Lib.hid hLS
      clear hLS hkW hsz
      by_cases hk0 : k = 0
      · subst hk0
        have HE0 := Lib.hid (show l = [] ∧ wh = 0 by
          rcases HI.out.1 with ⟨_, h1, h2, _⟩ | ⟨h1, _⟩
          · exact ⟨h1, h2⟩
          · omega)
        have HCP := Lib.hid (Tryz.strings_CutPrefix s ⟨#[116, 105, 116, 108, 101, 58, 32]⟩ wr)
        have HPR := Lib.hid (@trimPre s ⟨#[116, 105, 116, 108, 101, 58, 32]⟩)
        have HPN := Lib.hid (@trimNo s ⟨#[116, 105, 116, 108, 101, 58, 32]⟩)
        cases hp : Lib.hasPrefix s.data.toList (⟨#[116, 105, 116, 108, 101, 58, 32]⟩ : ByteArray).data.toList with
        | false =>
          have HR := Lib.hid (HRW.out 0 (firstR_no HKL.out (by rw [HLS.out]; exact hp)))
          have HPE := Lib.hid (HPN.out hp)
          have HP := Lib.hid hp
          have HBF := Lib.hid (HBE.out wr HBW.out)
          clear hp HPR HPN HI
          go_wp2_with (first | (go_at_call 53; refine HCP.out.mono ?_; rintro e w' ⟨rfl, rfl⟩; rw [HPE.out, HP.out]) | fail)
          refine ⟨rfl, .tuple #[.agg #[.string ⟨#[]⟩, .slice none 0 0], .int .i64 ((0 : Nat) : Int), .int .i64 9], (by rw [results_cell_tmp2 rfl]; go_simp), ?_⟩
          refine ReP.err HR.out ?_
          repeat (first | exact HBF.out | refine Below.setCell ?_ (by first | exact Nat.le_refl _ | (dsimp only; omega)) _)
        | true =>
          have HPE := Lib.hid (show (⟨(Lib.trimPrefix s.data.toList (⟨#[116, 105, 116, 108, 101, 58, 32]⟩ : ByteArray).data.toList).toArray⟩ : ByteArray) = s.extract 7 s.size from HPR.out hp)
          have HRY := Lib.hid (show ReI Lm 1 (s.extract 7 s.size) [] 0 by
            have h := ReI.yes HKL.out (by rw [HLS.out]; exact hs2) (by rw [HLS.out]; exact hp)
            rw [HLS.out] at h
            exact h)
          have HP := Lib.hid hp
          have HG2 := Lib.hid (show RdG w2 w2.heap.size (s.extract 7 s.size) l v wh (wr.setCell ⟨w2.heap.size, 0, none⟩ (.string (s.extract 7 s.size))) from NS.set (i := 0) HG.out (.string (s.extract 7 s.size)) (fun p hp => by cases hp))
          clear hp HPR HPN HI
          go_wp2_with (first | (go_at_call 53; refine HCP.out.mono ?_; rintro e w' ⟨rfl, rfl⟩; rw [HPE.out, HP.out]) | fail)
          go_roundw
          case rel => exact ⟨1, s.extract 7 s.size, l, v, wh, by omega, rfl, by rw [HE0.out.1, HE0.out.2]; exact HRY, HG2⟩
          case measure => simp [intOf]; omega
      · have hk1 : 1 ≤ k := by omega
        have hk2 : (0 : Int) < (k : Int) := by omega
        have hk3 : ((k : Int) == 0) = false := beq_eq_false_iff_ne.2 (by omega)
        have HLN := Lib.hid (line_c w2 wr w2.heap.size k t l v wh s HG.out HI.out.2.1 (by omega) (by omega) (HMX.out wr HBW.out) ⟨HI.out.2.2.wh, fun h => by have := HI.out.2.2.ne h; simpa using this⟩)
        clear hk0
        go_wp2_with fail
        refine HLN.out.mono ?_
        intro e w5 he5
        rcases he5 with ⟨r, l', v', h1, rfl, h3, h4, h5⟩ | ⟨h1, rfl, h3⟩
        · have HN := Lib.hid (ReI.next HI.out hk1 HKL.out (by rw [HLS.out]; exact hs2) (by rw [HLS.out]; exact h1) h3 h4)
          have HG5 := Lib.hid h5
          clear h1 h3 h4 h5 HLN HI HG
          go_wp2
          go_roundw
          case rel => exact ⟨k + 1, r.title, l', v', r.wh, by omega, intNum, HN.out, HG5.out⟩
          case measure => simp [intOf]; omega
        · have HR := Lib.hid (HRW.out k (ReI.stop HI.out hk1 HKL.out (by rw [HLS.out]; exact h1)))
          have HB5 := Lib.hid (HBE.out w5 h3)
          obtain ⟨⟨ys0, ys1⟩, fs0, fs1⟩ := HRS.out w5 h3
          clear h1 h3 HLN HI HG
          go_wp2
          refine ⟨rfl, .tuple #[.agg #[.string ⟨#[]⟩, .slice none 0 0], .int .i64 (k : Int), .int .i64 9], (by rw [results_cell_tmp2 rfl]; go_simp), ?_⟩
          refine ReP.err HR.out ?_
          repeat (first | exact HB5.out | refine Below.setCell ?_ (by first | exact Nat.le_refl _ | (dsimp only; omega)) _)
    · obtain rfl : k = M := by omega
      have HFI := Lib.hid (HI.out.end_ (by rw [HLM.out]; omega))
      have hkW : k < W.length := by rw [HWL.out]; omega
      have c0 := strCell (HSL.out.below HBW.out (fun q hq => by omega)) k hkW
      have HV := Lib.hid (HRR.out _ _ (List.getElem?_eq_getElem hkW) HFI.out)
      generalize W[k]'hkW = s at *
      have HVE := Lib.hid (fun (h : k = 0 ∨ ¬ s.size = 0 ∨ wh = 1 ∨ wh = 2) => show readS text = (zeroX, k, 9) from HV.out.trans (if_pos h))
      have HVN := Lib.hid (fun (h : ¬ (k = 0 ∨ ¬ s.size = 0 ∨ wh = 1 ∨ wh = 2)) => HV.out.trans (if_neg h))
      have HBF := Lib.hid (HBE.out wr HBW.out)
      clear hkW HV HFI HRW HRR HLK HLM HWS2 HWE hk hlt
      by_cases k0 : k = 0
      · have HR := Lib.hid (HVE.out (.inl k0))
        have k0a : ((k : Int) == 0) = true := beq_iff_eq.2 (by omega)
        clear k0 HVN HVE
        go_wp2
        refine ⟨rfl, .tuple #[.agg #[.string ⟨#[]⟩, .slice none 0 0], .int .i64 (k : Int), .int .i64 9], (by rw [results_cell_tmp2 rfl]; go_simp), ?_⟩
        refine ReP.err HR.out ?_
        repeat (first | exact HBF.out | refine Below.setCell ?_ (by first | exact Nat.le_refl _ | (dsimp only; omega)) _)
      have k0a : ((k : Int) == 0) = false := beq_eq_false_iff_ne.2 (by omega)
      cases he : s.toList.isEmpty with
      | false =>
        have HR := Lib.hid (HVE.out (.inr (.inl (fun h => by
          have h0 : s = ⟨#[]⟩ := ba_ext (List.eq_nil_of_length_eq_zero (by simpa using h))
          rw [(empty_iff s).2 h0] at he; cases he))))
        clear k0 HVN HVE
        go_wp2
        refine ⟨rfl, .tuple #[.agg #[.string ⟨#[]⟩, .slice none 0 0], .int .i64 (k : Int), .int .i64 9], (by rw [results_cell_tmp2 rfl]; go_simp), ?_⟩
        refine ReP.err HR.out ?_
        repeat (first | exact HBF.out | refine Below.setCell ?_ (by first | exact Nat.le_refl _ | (dsimp only; omega)) _)
      | true =>
      have hse : s.size = 0 := by rw [(empty_iff s).1 he]; rfl
      rcases eqF wh 1 with ⟨q, qa, qb⟩ | ⟨q, qa, qb⟩
      · have HR := Lib.hid (HVE.out (.inr (.inr (.inl q))))
        clear k0 HVN HVE q hse
        go_wp2
        refine ⟨rfl, .tuple #[.agg #[.string ⟨#[]⟩, .slice none 0 0], .int .i64 (k : Int), .int .i64 9], (by rw [results_cell_tmp2 rfl]; go_simp), ?_⟩
        refine ReP.err HR.out ?_
        repeat (first | exact HBF.out | refine Below.setCell ?_ (by first | exact Nat.le_refl _ | (dsimp only; omega)) _)
      rcases eqF wh 2 with ⟨r, ra, rb⟩ | ⟨r, ra, rb⟩
      · have HR := Lib.hid (HVE.out (.inr (.inr (.inr r))))
        clear k0 HVN HVE q r hse
        go_wp2
        refine ⟨rfl, .tuple #[.agg #[.string ⟨#[]⟩, .slice none 0 0], .int .i64 (k : Int), .int .i64 9], (by rw [results_cell_tmp2 rfl]; go_simp), ?_⟩
        refine ReP.err HR.out ?_
        repeat (first | exact HBF.out | refine Below.setCell ?_ (by first | exact Nat.le_refl _ | (dsimp only; omega)) _)
      have HV2 := Lib.hid (show readS text = if ¬ chkE ⟨t, l.map (·.1)⟩ = 0 then (zeroX, 0, chkE ⟨t, l.map (·.1)⟩) else if ¬ textS ⟨t, l.map (·.1)⟩ = text then (zeroX, 0, 9) else (⟨t, l.map (·.1)⟩, 0, 0) from HVN.out (by rintro (h | h | h | h); exact k0 h; exact h hse; exact q h; exact r h))
      clear k0 HVN HVE q r hse
      obtain ⟨A, c, hv, _, _⟩ := (HG.out.bo.own.sliF (F := fun _ => True) (fun _ _ => trivial)).form
      have hsc := rd_scL HG.out HI.out.2.2 (by omega) HI.out.2.1 (by omega)
      have HSC := Lib.hid hsc
      have HCK := Lib.hid (Check_c t l v wr hsc (HMX.out wr HBW.out))
      subst hv
      generalize l.length = L at *
      clear hsc HI HG
      go_wp2_with fail
      refine HCK.out.mono ?_
      rintro e w5 ⟨rfl, hb5⟩
      have HB5 := Lib.hid (HBW.out.trans (hb5.mono HBW.out.size))
      have HSC5 := Lib.hid (HSC.out.below hb5)
      have hwr : w2.heap.size < wr.heap.size := World.block_lt_of_cell? wr ⟨w2.heap.size, 0, none⟩ r0
      have s0 : w5.cell? ⟨w2.heap.size, 0, none⟩ = some (.string t) := (hb5.cell (p := ⟨w2.heap.size, 0, none⟩) hwr).trans r0
      have s1 : w5.cell? ⟨w2.heap.size, 1, none⟩ = some (.slice A L c) := (hb5.cell (p := ⟨w2.heap.size, 1, none⟩) hwr).trans r1
      have hw5 : w2.heap.size < w5.heap.size := Nat.lt_of_lt_of_le hwr hb5.size
      obtain ⟨⟨ys0, ys1⟩, fs0, fs1⟩ := HRS.out w5 HB5.out
      have HBF5 := Lib.hid (HBE.out w5 HB5.out)
      clear hb5 HCK yr0 yr1 fr0 fr1 r0 r1 r2 rf0 HBF HSC HBW hwr c0
      by_cases hc : chkE ⟨t, l.map (·.1)⟩ = 0
      · have HOK := Lib.hid (chkE_ok hc)
        have HLL := Lib.hid (textT_len HOK.out)
        have HWC := Lib.hid (written_c t l (.slice A L c) w5 HSC5.out (wrL_of HOK.out) (by have := HLL.out; omega))
        have HV3 := Lib.hid (HV2.out.trans (if_neg (fun h => h hc)))
        rw [hc]
        clear hc HOK HLL HV2
        go_wp2_with fail
        refine HWC.out.mono ?_
        rintro e w6 ⟨rfl, hb6⟩
        have HB6 := Lib.hid (HB5.out.trans (hb6.mono HB5.out.size))
        have HSC6 := Lib.hid (HSC5.out.below hb6)
        have u0 : w6.cell? ⟨w2.heap.size, 0, none⟩ = some (.string t) := (hb6.cell (p := ⟨w2.heap.size, 0, none⟩) hw5).trans s0
        have u1 : w6.cell? ⟨w2.heap.size, 1, none⟩ = some (.slice A L c) := (hb6.cell (p := ⟨w2.heap.size, 1, none⟩) hw5).trans s1
        obtain ⟨⟨yt0, yt1⟩, ft0, ft1⟩ := HRS.out w6 HB6.out
        have HBF6 := Lib.hid (HBE.out w6 HB6.out)
        have hw6 : w2.heap.size ≤ w6.heap.size := HB6.out.size
        clear hb6 HWC s0 s1 ys0 ys1 fs0 fs1 HBF5 HSC5 hw5 HB5
        generalize textS ⟨t, l.map (·.1)⟩ = tx at *
        by_cases hx : tx = text
        · have HR := Lib.hid (HV3.out.trans (if_neg (fun h => h hx)))
          have hx1 : (tx.toList == text.toList) = true := by rw [beqS, decide_eq_true hx]
          have hx2 : (tx.toList != text.toList) = false := by rw [bne, hx1]; rfl
          clear hx HV3
          go_wp2
          refine ⟨rfl, .tuple #[.agg #[.string t, .slice A L c], .int .i64 ((0 : Nat) : Int), .int .i64 0], (by rw [results_cell_tmp2 rfl]; go_simp), ?_⟩
          refine ReP.ok HR.out HSC6.out (fun q hq => by have := hq.1; omega) ?_ (by simp [World.setCell]) (fun b hb hne => ?_)
          · repeat (first | exact HBF6.out | refine Below.setCell ?_ (by first | exact Nat.le_refl _ | (dsimp only; omega)) _)
          · exact (Below.heap_setCell _ _ _ _ hne).trans (Below.heap_setCell _ _ _ _ hne)
        · have HR := Lib.hid (HV3.out.trans (if_pos hx))
          have hx1 : (tx.toList == text.toList) = false := by rw [beqS, decide_eq_false hx]
          have hx2 : (tx.toList != text.toList) = true := by rw [bne, hx1]; rfl
          clear hx HV3
          go_wp2
          refine ⟨rfl, .tuple #[.agg #[.string ⟨#[]⟩, .slice none 0 0], .int .i64 ((0 : Nat) : Int), .int .i64 9], (by rw [results_cell_tmp2 rfl]; go_simp), ?_⟩
          refine ReP.err HR.out ?_
          repeat (first | exact HBF6.out | refine Below.setCell ?_ (by first | exact Nat.le_refl _ | (dsimp only; omega)) _)
      · have HR := Lib.hid (HV2.out.trans (if_pos hc))
        have hne : (chkE ⟨t, l.map (·.1)⟩ != 0) = true := by rw [bne_iff_ne]; exact hc
        clear HV2
        generalize chkE ⟨t, l.map (·.1)⟩ = ce at *
        clear hc
        go_wp2
        refine ⟨rfl, .tuple #[.agg #[.string ⟨#[]⟩, .slice none 0 0], .int .i64 ((0 : Nat) : Int), .int .i64 ce], (by rw [results_cell_tmp2 rfl]; go_simp), ?_⟩
        refine ReP.err HR.out ?_
        repeat (first | exact HBF5.out | refine Below.setCell ?_ (by first | exact Nat.le_refl _ | (dsimp only; omega)) _)
end Go.Proofs.YtndillbimibecaaGreatDoor

