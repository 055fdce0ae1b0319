/- Texts packed: KqG, LmV, MgW, MoE, MoW, MoX, PaQ, LkD, LkE, LkF, LkG. -/
import Derived.Test.YtnnnmbipmfopmaaGreatDoorSc22
import Derived.Test.YtnnnmbipmfopmaaGreatDoorSc41
import Derived.Test.YtnnnmbipmfopmaaGreatDoorSc24
import Derived.Test.YtnnnmbipmfopmaaGreatDoorSc07
import Derived.Test.YtnnnmbipmfopmaaGreatDoorSc02
import Derived.Test.YtnnnmbipmfopmaaGreatDoorSc01
import Derived.Test.YtnnnmbipmfopmaaGreatDoorSc33
/- Lists of pairs compared; the generator's long list, walked. -/
namespace Go.Proofs.YtnnnmbipmfopmaaGreatDoor
set_option linter.unusedVariables false
open Go.RowKit Go.Sort

theorem prAt {w : World} {F : Nat → Prop} {l : List (Nat × Nat)} {A : Option Addr} {n c : Nat} (h : Sli prR w F l (.slice A n c)) (k : Nat) (hk : k < l.length) : ∃ b off, A = some ⟨b, off, none⟩ ∧ F b ∧ w.cell? ⟨b, off + k * 2, none⟩ = some (.int .i64 (l[k].1 : Nat)) ∧ w.cell? ⟨b, off + k * 2 + 1, none⟩ = some (.int .i64 (l[k].2 : Nat)) := by
  obtain ⟨b, off, a, e, hb, hr, hc⟩ := h.at_ k hk
  have ha : a = prC l[k] := hr
  subst ha
  exact ⟨b, off, e, hb, hc 0 _ rfl, hc 1 _ rfl⟩
end Go.Proofs.YtnnnmbipmfopmaaGreatDoor

/- revise.partner, walked. -/
namespace Go.Proofs.YtnnnmbipmfopmaaGreatDoor
set_option linter.unusedVariables false
open Go.RowKit Go.Sort

/-- A line's partner; -1: none. -/
def prtI (l : List (Nat × Nat)) (i : Nat) : Int := match prtN l i with
  | some y => y
  | none => -1
def ptC (l : List (Nat × Nat)) (n : Nat) : Array Value := ((List.range n).map fun i => Value.int .i64 (prtI l i)).toArray
theorem ptC_size (l : List (Nat × Nat)) (n : Nat) : (ptC l n).size = n := by simp [ptC]
theorem ptC_at {l : List (Nat × Nat)} {n i : Nat} (hi : i < n) : (ptC l n)[i]? = some (.int .i64 (prtI l i)) := by
  unfold ptC
  rw [List.getElem?_toArray, List.getElem?_map, List.getElem?_range hi]
  rfl
theorem ptC_nil (n : Nat) : repC (-1) n n = ptC [] n := by
  apply Array.ext_getElem?
  intro i
  by_cases hi : i < n
  · rw [repC_at hi, ptC_at hi, if_pos hi]; rfl
  · rw [Array.getElem?_eq_none (by rw [repC_size]; omega), Array.getElem?_eq_none (by rw [ptC_size]; omega)]
theorem prtN_snoc {l : List (Nat × Nat)} {p : Nat × Nat} (h : ∀ q ∈ l, q.1 ≠ p.1) (i : Nat) : prtN (l ++ [p]) i = if i = p.1 then some p.2 else prtN l i := by
  unfold prtN
  rw [List.find?_append]
  by_cases e : i = p.1
  · subst e
    rw [if_pos rfl, List.find?_eq_none.2 (fun q hq => by simpa using h q hq)]
    simp
  · rw [if_neg e]
    cases hf : l.find? (fun p => p.1 == i) with
    | some q => rfl
    | none =>
      have : (p.1 == i) = false := by rw [beq_eq_false_iff_ne]; exact fun x => e x.symm
      simp [this]
theorem ptC_set {l : List (Nat × Nat)} {p : Nat × Nat} {n : Nat} (h : ∀ q ∈ l, q.1 ≠ p.1) (hp : p.1 < n) : (ptC l n).setIfInBounds p.1 (.int .i64 (p.2 : Nat)) = ptC (l ++ [p]) n := by
  apply Array.ext_getElem?
  intro i
  rw [Array.getElem?_setIfInBounds]
  by_cases hi : i < n
  · have e2 := ptC_at (l := l ++ [p]) hi
    unfold prtI at e2
    rw [prtN_snoc h] at e2
    rw [e2]
    by_cases e : p.1 = i
    · rw [if_pos e, if_pos (by rw [ptC_size]; exact hp), if_pos e.symm]
    · rw [if_neg e, ptC_at hi, if_neg (fun x => e x.symm)]; rfl
  · rw [if_neg (by omega), Array.getElem?_eq_none (by rw [ptC_size]; omega), Array.getElem?_eq_none (by rw [ptC_size]; omega)]
def PtnP (a b : List ByteArray) (w : World) (e : Ending) (w' : World) : Prop := ∃ g, e = .returned (.slice (some ⟨g, 0, none⟩) a.length a.length) ∧ Below w.heap.size w w' ∧ w.heap.size ≤ g ∧ w'.heap[g]? = some (.cells (ptC (prX a b) a.length) 3 (0, 0))
set_option maxRecDepth 100000 in
set_option maxHeartbeats 8000000 in
theorem partner_c {F G : Nat → Prop} (a b : List ByteArray) (va vb : Value) (w : World) (ha : Sli strR w F a va) (hb : Sli strR w G b vb) (hF : ∀ q, F q → q < w.heap.size) (hG : ∀ q, G q → q < w.heap.size) (hn3 : a.length ≤ 3000) (hm3 : b.length ≤ 3000) :
    Calls Tryz.prog 28 #[va, vb] w (PtnP a b w) := by
  obtain ⟨A, ca, rfl, hlca, hca⟩ := ha.form
  obtain ⟨n, hn⟩ : ∃ n, a.length = n := ⟨_, rfl⟩
  have HN := Lib.hid hn
  have HB1 := Lib.hid ((Below.refl w.heap.size w).alloc (Nat.le_refl _) (.cells #[.int .i64 (-1)] 3))
  have HR := repeat_c w.heap.size n (-1) (w.alloc (.cells #[.int .i64 (-1)] 3)) (heap_alloc_new w _) (by omega)
  have HR := Lib.hid HR
  have HPR := Lib.hid (fun (W : World) (hw : Below w.heap.size w W) => pairs_c a b (.slice A a.length ca) vb W (ha.below hw hF) (hb.below hw hG) (fun q hq => by have := hF q hq; have := hw.size; omega) (fun q hq => by have := hG q hq; have := hw.size; omega) hn3 hm3)
  unfold PtnP
  rw [hn] at HPR hlca hn3 ⊢
  clear ha hb hF hG hn
  go_enter Tryz.func28, Tryz.ntmps28
  go_wp2_with fail
  refine HR.out.mono ?_
  rintro e w2 ⟨rfl, hb2, hg2⟩
  have HB2 := Lib.hid (HB1.out.trans (hb2.mono HB1.out.size))
  have hPP := HPR.out w2 HB2.out
  unfold PairP at hPP
  have HPP := Lib.hid hPP
  have HG2 := Lib.hid hg2
  have hs1 : (w.alloc (.cells #[.int .i64 (-1)] 3)).heap.size = w.heap.size + 1 := by simp
  rw [hs1] at HG2 ⊢
  clear hb2 hg2 hPP HPR HR hs1
  go_wp2_with fail
  refine HPP.out.mono ?_
  rintro e w3 ⟨v, rfl, hown, hb3⟩
  obtain ⟨L, hL⟩ : ∃ L, (prX a b).length = L := ⟨_, rfl⟩
  have HLL := Lib.hid hL
  have hLb : L ≤ 6000 := by have := prX_le a b; rw [HN.out] at this; omega
  have hsl := hown.sli (F := fun q => w2.heap.size ≤ q ∧ q < w3.heap.size) (fun q h1 h2 => ⟨h1, h2⟩) (fun g hg => hown.block g hg)
  have hvf : ∃ A' c', v = .slice A' L c' := by
    obtain ⟨A', c', he, h1, h2⟩ := hsl.form
    rw [hL] at he
    exact ⟨A', c', he⟩
  obtain ⟨A9, c9, rfl⟩ := hvf
  have hlg := heap_lt HG2.out
  have G0 := Lib.hid (show PvG w [(w.heap.size + 1, ptC [] n, 3)] w3 from ⟨HB2.out.trans (hb3.mono HB2.out.size), Own.nil_, fun p hp => by
    rw [List.mem_singleton.1 hp]
    exact ⟨(hb3.block _ hlg).trans (by rw [HG2.out, ptC_nil]), by dsimp only; omega, by intro h; cases h⟩⟩)
  have HSL := Lib.hid hsl
  have hz3 := hb3.size
  clear hown hb3 HPP hL hsl HB2 HB1
  go_wp2
  go_loopw [16] (fun s16 wr => ∃ k : Nat, k ≤ L ∧ s16 = .int .i64 k ∧ Hid (w3.heap.size ≤ wr.heap.size ∧ ∀ q, w2.heap.size ≤ q ∧ q < w3.heap.size → wr.heap[q]? = w3.heap[q]?) ∧ Hid (PvG w [(w.heap.size + 1, ptC ((prX a b).take k) n, 3)] wr)) (fun s16 _ => L - (intOf s16).toNat)
  case atStart => exact ⟨0, Nat.zero_le _, rfl, ⟨Nat.le_refl _, fun q _ => rfl⟩, G0⟩
  case round =>
    clear G0
    obtain ⟨k, hk, rfl, HK, HG⟩ := hrel
    by_cases hlt : k < L
    · obtain ⟨p, hp⟩ : ∃ p, (prX a b)[k]'(by rw [HLL.out]; exact hlt) = p := ⟨_, rfl⟩
      have hpi := prX_in (a := a) (b := b) (p := p) (by rw [← hp]; exact List.getElem_mem _)
      rw [HN.out] at hpi
      have hne : ∀ q ∈ (prX a b).take k, q.1 ≠ p.1 := fun q hq => by
        obtain ⟨j, hj, rfl⟩ := List.getElem_of_mem hq
        rw [List.length_take] at hj
        have h1 := List.pairwise_iff_getElem.1 (prX_up a b) j k (by omega) (by rw [HLL.out]; exact hlt) (by omega)
        rw [hp] at h1
        rw [List.getElem_take]
        omega
      obtain ⟨b9, o9, he9, hb9, c0, c1⟩ := prAt ((HSL.out.keep HK.out.2)) k (by rw [HLL.out]; exact hlt)
      rw [hp] at c0 c1
      have hset := ptC_set (n := n) hne hpi.1
      have htk : (prX a b).take k ++ [p] = (prX a b).take (k + 1) := by rw [List.take_succ_eq_append_getElem (by rw [HLL.out]; exact hlt), hp]
      rw [htk] at hset
      have G1 := Lib.hid (show PvG w [(w.heap.size + 1, ptC ((prX a b).take (k + 1)) n, 3)] ((wr.setCell ⟨w.heap.size + 1, p.1, none⟩ (.int .i64 (p.2 : Nat))).alloc (.cells #[.int .i64 (p.1 : Nat), .int .i64 (p.2 : Nat)] 74)) from by
        have h := HG.out.set (i := p.1) (fun h => h) (.int .i64 (p.2 : Nat)) (by simp)
        rw [hset] at h
        exact h.alloc _)
      obtain ⟨q0', f0'⟩ := HG.out.cell (p := (w.heap.size + 1, ptC ((prX a b).take k) n, 3)) (by simp)
      have q0 : wr.cell? ⟨w.heap.size + 1, p.1, none⟩ = some (.int .i64 (prtI ((prX a b).take k) p.1)) := (q0' p.1).trans (ptC_at hpi.1)
      have f0 : wr.frozen? ⟨w.heap.size + 1, p.1, none⟩ = false := f0' p.1
      have hGl : w.heap.size + 1 < wr.heap.size := HG.out.plt (p := (w.heap.size + 1, ptC ((prX a b).take k) n, 3)) (by simp)
      have HK2 := Lib.hid (show w3.heap.size ≤ ((wr.setCell ⟨w.heap.size + 1, p.1, none⟩ (.int .i64 (p.2 : Nat))).alloc (.cells #[.int .i64 (p.1 : Nat), .int .i64 (p.2 : Nat)] 74)).heap.size ∧ ∀ q, w2.heap.size ≤ q ∧ q < w3.heap.size → ((wr.setCell ⟨w.heap.size + 1, p.1, none⟩ (.int .i64 (p.2 : Nat))).alloc (.cells #[.int .i64 (p.1 : Nat), .int .i64 (p.2 : Nat)] 74)).heap[q]? = w3.heap[q]? from ⟨by have := HK.out.1; simp [World.setCell]; omega, fun q hq => by
        have hlw := HK.out.1
        rw [Below.heap_alloc _ _ q (by simp [World.setCell]; omega), Below.heap_setCell _ _ _ _ (by dsimp only; omega)]
        exact HK.out.2 q hq⟩)
      clear q0' f0' hset htk hne hp HG HK
      subst he9
      obtain ⟨p1, p2⟩ := p
      dsimp only at c0 c1 q0 f0 hpi G1 HK2
      go_upto_region 6 with (fail)
      clear c0 c1 q0 f0
      go_wp2
      go_roundw
      case rel => exact ⟨k + 1, by omega, intNum, HK2, G1⟩
      case measure => simp [intOf]; omega
    · have hkL : k = L := by omega
      have HF := Lib.hid (show PvG w [(w.heap.size + 1, ptC (prX a b) n, 3)] wr from by
        have := HG.out
        rw [List.take_of_length_le (by rw [HLL.out]; omega)] at this
        exact this)
      go_wp2
      go_ret
      exact ⟨_, rfl, HF.out.bel, by omega, (HF.out.prv (w.heap.size + 1, ptC (prX a b) n, 3) (by simp)).1⟩
end Go.Proofs.YtnnnmbipmfopmaaGreatDoor

/- revise.Merge, walked. -/
namespace Go.Proofs.YtnnnmbipmfopmaaGreatDoor
set_option linter.unusedVariables false
open Go.RowKit Go.Sort

def faS (base a : List ByteArray) : Nat → Option Nat := prtN (prX base a)
theorem faS_ris (base a : List ByteArray) : Ris (faS base a) base.length a.length := ris_of (prX_up base a) fun _ h => prX_in h
def mgE (base a b : List ByteArray) : MgS := mgN base a b (faS base a) (faS base b) (base.length + 1)
theorem mgE_len (base a b : List ByteArray) : (mgE base a b).out.length ≤ base.length + a.length + b.length + 3 := by
  have h := mgN_ok (faS_ris base a) (faS_ris base b) (base.length + 1) (Nat.le_refl _)
  have e : mgN base a b (faS base a) (faS base b) (base.length + 1) = mgStep base a b (faS base a) (faS base b) (mgN base a b (faS base a) (faS base b) base.length) base.length := mgN_succ ..
  have e2 : (mgN base a b (faS base a) (faS base b) (base.length + 1)).i = base.length + 1 ∧ (mgN base a b (faS base a) (faS base b) (base.length + 1)).j = a.length + 1 ∧ (mgN base a b (faS base a) (faS base b) (base.length + 1)).k = b.length + 1 := by
    rw [e]
    unfold mgStep
    rw [if_pos rfl, if_pos rfl]
    exact ⟨rfl, rfl, rfl⟩
  have := h.out
  unfold mgE
  omega
def MerP (base a b : List ByteArray) (w : World) (e : Ending) (w' : World) : Prop := ∃ v u, e = .returned (.tuple #[v, u, .int .i64 0]) ∧ Below w.heap.size w w' ∧ Own strR w' w.heap.size w.heap.size 9 (mgE base a b).out v ∧ Own prR w' w.heap.size w.heap.size 46 (mgE base a b).cl u
/-- A list of texts of one's own, and another beside it: a whole list, an empty one too, is appended. -/
theorem wpList_appB2 {ops : Array Oper} {rest : List Oper} {o : Oper} {a : Act} {Q : Exit → Act → World → Prop} (hgd : o.guard = none) (s x : Operand)
    (ho : o.op = .call { callee := .builtin .append, args := #[s, x], argTypes := #[26, 26] }) (i0 : TypeInfo) (hi0 : Tryz.prog.info? 9 = some i0) (hz0 : i0.zero = some (.string ⟨#[]⟩)) (hz1 : i0.size = 1) (hz2 : i0.bytes = 16)
    (w W : World) (v u : Value) (l ys : List ByteArray) (m : List (Nat × Nat)) (hs : a.eval s = v) (G : B2 strR prR 9 46 w l v m u W) {F : Nat → Prop} (ad : Option Addr) (k c : Nat) (hx : a.eval x = .slice ad k c) (hy : Sli strR W F ys (.slice ad k c)) (hk : ys.length = k) (hb : l.length + k ≤ 100000)
    (h : ∀ v' W', B2 strR prR 9 46 w (l ++ ys) v' m u W' → wpList Tryz.prog ops Q rest (a.put o.dst v') W') : wpList Tryz.prog ops Q (o :: rest) a W := by
  by_cases h0 : k = 0
  · subst h0
    obtain rfl : ys = [] := List.length_eq_zero_iff.1 hk
    refine wpList_app0 hgd s x _ ho w.heap.size w.heap.size 9 i0 Tryz.underlying26 hi0 W v l hs G.o1 ad c hx (h v W ?_)
    rw [List.append_nil]
    exact G
  · refine wpList_appL (enc := fun s : ByteArray => [.string s]) (hn := fun _ => rfl) hgd s x _ ho w.heap.size w.heap.size 9 i0 _ 16 Tryz.underlying26 hi0 hz0 hz1 hz2 rfl (by decide) (fun x u hu => by simp at hu; subst hu; rfl) W v l hs G.o1 ys ad k c hx hy hk (by omega) (by unfold maxLen; omega) (by omega) G.bel.size ?_
    intro g cap w' hown hg hat _
    exact h _ _ (G.more1 hown hg rfl hat)
theorem cutSli2 {W : World} {G : Nat → Prop} {b : List ByteArray} {A : Option Addr} {n c i j : Nat} (h : Sli strR W G b (.slice A n c)) (hij : i ≤ j) (hj : j ≤ b.length) : Sli strR W G (cutL b i j) (.slice (if c = i then A else Option.map (fun x => x.add i) A) (j - i) (c - i)) := by
  have hlc : b.length ≤ c ∧ c ≤ 9223372036854775807 := by
    obtain ⟨A', c', he, h1, h2⟩ := h.form
    cases he
    exact ⟨h1, h2⟩
  have hn : n = b.length := by
    obtain ⟨A', c', he, _⟩ := h.form
    cases he
    rfl
  by_cases hlt : i < j
  · obtain ⟨b', o', _, he, _⟩ := h.at_ 0 (by omega)
    subst he
    rw [if_neg (by omega)]
    have q := cutSli h hij hj
    have e : ((⟨b', o', none⟩ : Addr).add i) = ⟨b', o' + i, none⟩ := by
      by_cases h0 : i = 0
      · subst h0; simp [Addr.add]
      · simp [Addr.add, h0]
    show Sli strR W G (cutL b i j) (.slice (some ((⟨b', o', none⟩ : Addr).add i)) (j - i) (c - i))
    rw [e]
    exact q
  · have e1 : j - i = 0 := by omega
    have e2 : cutL b i j = [] := by unfold cutL; rw [e1]; rfl
    rw [e1, e2]
    exact sliEmp _ _ (by omega)
set_option maxRecDepth 100000 in
set_option maxHeartbeats 16000000 in
theorem Merge_c {F : Nat → Prop} (base a b : List ByteArray) (v0 va vb : Value) (w : World) (h0 : Sli strR w F base v0) (ha : Sli strR w F a va) (hb : Sli strR w F b vb) (hF : ∀ q, F q → q < w.heap.size) (hn0 : base.length ≤ 500) (hna : a.length ≤ 500) (hnb : b.length ≤ 500) :
    Calls Tryz.prog 15 #[v0, va, vb] w (MerP base a b w) := by
  have H0 := Lib.hid (large_c base v0 w h0)
  have HA := Lib.hid (large_c a va w ha)
  have HB := Lib.hid (large_c b vb w hb)
  have HPA := partner_c base a v0 va w h0 ha hF hF (by omega) (by omega)
  have HPB := fun (W : World) (hw : Below w.heap.size w W) => partner_c base b v0 vb W (h0.below hw hF) (hb.below hw hF) (fun q hq => by have := hF q hq; have := hw.size; omega) (fun q hq => by have := hF q hq; have := hw.size; omega) (by omega) (by omega)
  unfold PtnP at HPA HPB
  have HPA := Lib.hid HPA
  have HPB := Lib.hid HPB
  obtain ⟨A0, c0, rfl, hl0, hc0⟩ := h0.form
  obtain ⟨A1, c1, rfl, hl1, hc1⟩ := ha.form
  obtain ⟨A2, c2, rfl, hl2, hc2⟩ := hb.form
  obtain ⟨n, hn⟩ : ∃ n, base.length = n := ⟨_, rfl⟩
  obtain ⟨p, hp⟩ : ∃ p, a.length = p := ⟨_, rfl⟩
  obtain ⟨q, hq⟩ : ∃ q, b.length = q := ⟨_, rfl⟩
  have HN := Lib.hid hn
  have HP := Lib.hid hp
  have HQ := Lib.hid hq
  have HF := Lib.hid hF
  obtain ⟨i0, hi0, hz0, hz1, hz2⟩ := info_parts (show (Tryz.prog.info? 9).map (fun i => (i.zero, i.size, i.bytes)) = some (some (.string ⟨#[]⟩), 1, 16) by kernel_rfl)
  obtain ⟨i2, hi2, hy0, hy1, hy2⟩ := info_parts (show (Tryz.prog.info? 46).map (fun i => (i.zero, i.size, i.bytes)) = some (some (.agg #[.int .i64 0, .int .i64 0]), 2, 16) by kernel_rfl)
  have HS := Lib.hid (fun (W : World) (hw : Below w.heap.size w W) => And.intro (h0.below hw hF) (And.intro (ha.below hw hF) (hb.below hw hF)))
  have d0 : decide (3000 < base.length) = false := decide_eq_false (by omega)
  have d1 : decide (3000 < a.length) = false := decide_eq_false (by omega)
  have d2 : decide (3000 < b.length) = false := decide_eq_false (by omega)
  rw [d0] at H0
  rw [d1] at HA
  rw [d2] at HB
  rw [hn] at H0 HPA HPB HS hl0 hn0 ⊢
  rw [hp] at HA HPA HS hl1 hna ⊢
  rw [hq] at HB HPB HS hl2 hnb ⊢
  clear h0 ha hb hF hn hp hq d0 d1 d2
  go_enter Tryz.func15, Tryz.ntmps15
  go_wp2_with fail
  refine H0.out.mono ?_
  rintro e w1 ⟨rfl, rfl⟩
  go_wp2_with fail
  refine HA.out.mono ?_
  rintro e w1 ⟨rfl, rfl⟩
  go_wp2_with fail
  refine HB.out.mono ?_
  rintro e w1 ⟨rfl, rfl⟩
  go_wp2_with fail
  refine HPA.out.mono ?_
  rintro e w2 ⟨gA, rfl, hb2, hgA, hcA⟩
  have HB2 := Lib.hid hb2
  have HCA := Lib.hid hcA
  clear hb2 hcA HPA H0 HA HB
  go_wp2_with fail
  refine (HPB.out w2 HB2.out).mono ?_
  rintro e w3 ⟨gB, rfl, hb3, hgB, hcB⟩
  have HB3 := Lib.hid (HB2.out.trans (hb3.mono HB2.out.size))
  have HCA3 := Lib.hid ((hb3.block gA (heap_lt HCA.out)).trans HCA.out)
  have HCB3 := Lib.hid hcB
  have hgA3 : gA < w3.heap.size := heap_lt HCA3.out
  have hgB3 : gB < w3.heap.size := heap_lt hcB
  have E3 := Lib.hid (show B2 strR prR 9 46 w3 [] (.slice none 0 0) [] (.slice none 0 0) w3 from B2.start w3)
  clear hb3 hcB HPB HCA
  go_upto_region 8 with (fail)
  go_loopw [11, 12, 13, 14, 15, 41] (fun s11 s12 s13 s14 s15 s41 wr => ∃ (x : Nat) (S : MgS), x ≤ n + 1 ∧ s41 = .int .i64 x ∧ s13 = .int .i64 S.i ∧ s14 = .int .i64 S.j ∧ s15 = .int .i64 S.k ∧ Hid (S = mgN base a b (faS base a) (faS base b) x) ∧ Hid (B2 strR prR 9 46 w3 S.out s11 S.cl s12 wr)) (fun _ _ _ _ _ s41 _ => n + 1 - (intOf s41).toNat)
  case atStart => exact ⟨0, mgZ, Nat.zero_le _, rfl, rfl, rfl, rfl, rfl, E3⟩
  case round =>
    clear E3
    obtain ⟨x, S, hx, rfl, rfl, rfl, rfl, HST, HG⟩ := hrel
    by_cases hlt : x < n + 1
    · have HOK := Lib.hid (by
        have q := mgN_ok (base := base) (a := a) (b := b) (faS_ris base a) (faS_ris base b) x (by rw [HN.out]; omega)
        rw [← HST.out] at q
        exact q)
      have HSTEP := Lib.hid (show mgN base a b (faS base a) (faS base b) (x + 1) = mgStep base a b (faS base a) (faS base b) S x by rw [mgN_succ, ← HST.out])
      have HGW := Lib.hid (HG.out.bel)
      go_upto_if 51 with (fail)
      go_cut [17, 18] (fun s17 s18 wx => ∃ y z : Nat, s17 = .int .i64 y ∧ s18 = .int .i64 z ∧ S.j ≤ y ∧ y ≤ p ∧ S.k ≤ z ∧ z ≤ q ∧ (if x = base.length then some a.length else faS base a x) = some y ∧ (if x = base.length then some b.length else faS base b x) = some z ∧ Hid (B2 strR prR 9 46 w3 S.out u11 S.cl u12 wx))
      case first =>
        by_cases hxn : x = n
        · subst hxn
          have hx1 : ¬ (x : Int) < x := by omega
          go_wp2
          go_meet
          exact ⟨p, q, rfl, rfl, by have := HOK.out.ja (by rw [HN.out]; exact Nat.le_refl _); rw [HP.out] at this; exact this, Nat.le_refl _, by have := HOK.out.kb (by rw [HN.out]; exact Nat.le_refl _); rw [HQ.out] at this; exact this, Nat.le_refl _, by rw [if_pos HN.out.symm, HP.out], by rw [if_pos HN.out.symm, HQ.out], HG⟩
        · have hxlt : x < n := by omega
          have hx1 : (x : Int) < n := by omega
          have e1 : wr.cell? ⟨gA, x, none⟩ = some (.int .i64 (prtI (prX base a) x)) := ((str_cells ((HGW.out.block gA hgA3).trans HCA3.out)).1 x).trans (ptC_at hxlt)
          have e2 : wr.cell? ⟨gB, x, none⟩ = some (.int .i64 (prtI (prX base b) x)) := ((str_cells ((HGW.out.block gB hgB3).trans HCB3.out)).1 x).trans (ptC_at hxlt)
          cases hfa : faS base a x with
          | none =>
            have ea : prtI (prX base a) x = -1 := by unfold prtI; rw [show prtN (prX base a) x = none from hfa]
            rw [ea] at e1
            have HNX := Lib.hid (show S = mgN base a b (faS base a) (faS base b) (x + 1) by rw [HSTEP.out]; unfold mgStep; rw [if_neg (by rw [HN.out]; exact hxn), hfa])
            clear hfa ea
            go_upto_region 12 with (fail)
            go_region
            go_wp2
            go_roundw
            case rel => exact ⟨x + 1, S, by omega, intNum, rfl, rfl, rfl, HNX, Lib.hid HG.out.drew⟩
            case measure => simp [intOf]; omega
          | some y =>
            have ea : prtI (prX base a) x = y := by unfold prtI; rw [show prtN (prX base a) x = some y from hfa]
            rw [ea] at e1
            have hy := (faS_ris base a).lt x y hfa
            rw [HP.out] at hy
            have hjy := HOK.out.j x y (Nat.le_refl _) hfa
            cases hfb : faS base b x with
            | none =>
              have eb : prtI (prX base b) x = -1 := by unfold prtI; rw [show prtN (prX base b) x = none from hfb]
              rw [eb] at e2
              have HNX := Lib.hid (show S = mgN base a b (faS base a) (faS base b) (x + 1) by rw [HSTEP.out]; unfold mgStep; rw [if_neg (by rw [HN.out]; exact hxn), if_neg (by rw [HN.out]; exact hxn), hfa, hfb])
              clear hfa hfb ea eb
              go_upto_region 12 with (fail)
              go_region
              go_wp2
              go_roundw
              case rel => exact ⟨x + 1, S, by omega, intNum, rfl, rfl, rfl, HNX, Lib.hid HG.out.drew⟩
              case measure => simp [intOf]; omega
            | some z =>
              have eb : prtI (prX base b) x = z := by unfold prtI; rw [show prtN (prX base b) x = some z from hfb]
              rw [eb] at e2
              have hz := (faS_ris base b).lt x z hfb
              rw [HQ.out] at hz
              have hkz := HOK.out.k x z (Nat.le_refl _) hfb
              have HFA := Lib.hid (show (if x = base.length then some a.length else faS base a x) = some y by rw [if_neg (by rw [HN.out]; exact hxn), hfa])
              have HFB := Lib.hid (show (if x = base.length then some b.length else faS base b x) = some z by rw [if_neg (by rw [HN.out]; exact hxn), hfb])
              clear hfa hfb ea eb
              go_upto_region 12 with (fail)
              go_region
              go_wp2
              go_meet
              exact ⟨y, z, rfl, rfl, hjy, by omega, hkz, by omega, HFA.out, HFB.out, Lib.hid HG.out.drew⟩
      case rest =>
        clear HG HGW
        obtain ⟨y, z, rfl, rfl, hjy, hyp, hkz, hzq, hfa, hfb, HG⟩ := hcut
        have HNX := Lib.hid (show mgN base a b (faS base a) (faS base b) (x + 1) = ⟨x + 1, y + 1, z + 1, S.out ++ mgAdd (cutL base S.i x) (cutL a S.j y) (cutL b S.k z) ++ (if h : x < base.length then [base[x]] else []), S.cl ++ if mgClash (cutL base S.i x) (cutL a S.j y) (cutL b S.k z) = true then [(S.i, x - S.i)] else []⟩ by rw [HSTEP.out]; unfold mgStep; rw [hfa, hfb])
        clear hfa hfb HSTEP HST
        have hi := HOK.out.i
        have ho := HOK.out.out
        have hcl := HOK.out.cl
        have hja := hjy
        have hsb0 : S.i ≤ c0 := by omega
        have hsb1 : x ≤ c0 := by omega
        have hsb2 : y ≤ c1 := by omega
        have hsb3 : z ≤ c2 := by omega
        have hxle : x ≤ n := by omega
        have hlo : (cutL base S.i x).length = x - S.i := cutL_len (by rw [HN.out]; omega)
        have hla : (cutL a S.j y).length = y - S.j := cutL_len (by rw [HP.out]; exact hyp)
        have hlb : (cutL b S.k z).length = z - S.k := cutL_len (by rw [HQ.out]; exact hzq)
        go_upto_region 14 with (fail)
        go_region
        obtain ⟨B0, hB0⟩ : ∃ B0, (if c0 = S.i then A0 else Option.map (fun x => x.add S.i) A0) = B0 := ⟨_, rfl⟩
        obtain ⟨B1, hB1⟩ : ∃ B1, (if c1 = S.j then A1 else Option.map (fun x => x.add S.j) A1) = B1 := ⟨_, rfl⟩
        obtain ⟨B2', hB2⟩ : ∃ B2, (if c2 = S.k then A2 else Option.map (fun x => x.add S.k) A2) = B2 := ⟨_, rfl⟩
        have HSL := Lib.hid (fun (W : World) (hw : Below w3.heap.size w3 W) => show Sli strR W F (cutL base S.i x) (.slice B0 (x - S.i) (c0 - S.i)) ∧ Sli strR W F (cutL a S.j y) (.slice B1 (y - S.j) (c1 - S.j)) ∧ Sli strR W F (cutL b S.k z) (.slice B2' (z - S.k) (c2 - S.k)) from by
          obtain ⟨s0, s1, s2⟩ := HS.out W (HB3.out.trans (hw.mono HB3.out.size))
          rw [← hB0, ← hB1, ← hB2]
          exact ⟨cutSli2 s0 hi (by rw [HN.out]; exact hxle), cutSli2 s1 hjy (by rw [HP.out]; exact hyp), cutSli2 s2 hkz (by rw [HQ.out]; exact hzq)⟩)
        have HEQ := Lib.hid (fun (l1 l2 : List ByteArray) (v1 v2 : Value) (W : World) (hw : Below w3.heap.size w3 W) (h1 : Sli strR W F l1 v1) (h2 : Sli strR W F l2 v2) => eqStr_c l1 l2 v1 v2 F W h1 h2 (fun q hq => by have := HF.out q hq; have := HB3.out.size; have := hw.size; omega))
        rw [hB0, hB1, hB2]
        have hxi : ((x - S.i : Nat) : Int) = (x : Int) - S.i := by omega
        have HG2 := Lib.hid HG.out.drew
        clear hB0 hB1 hB2 HG
        have HG := HG2
        clear HG2
        generalize wc.drew = wd at *
        by_cases hxn : x < n
        · have hx1 : (x : Int) < n := by omega
          have HTX0 := Lib.hid (fun (W : World) (hw : Below w3.heap.size w3 W) => (HS.out W (HB3.out.trans (hw.mono HB3.out.size))).1.txt x (by rw [HN.out]; exact hxn))
          obtain ⟨o0, f0, eA, _, _⟩ := HTX0.out w3 (Below.refl _ _)
          subst eA
          obtain ⟨bx, hbx⟩ : ∃ bx, base[x]'(by rw [HN.out]; exact hxn) = bx := ⟨_, rfl⟩
          have HBX := Lib.hid hbx
          have HTX := Lib.hid (fun (W : World) (hw : Below w3.heap.size w3 W) => show W.cell? ⟨o0, f0 + x, none⟩ = some (.string bx) from by
            obtain ⟨_, _, e1, _, e2⟩ := HTX0.out W hw
            cases e1
            rw [hbx] at e2
            exact e2)
          clear HTX0 hbx
          by_cases eq1 : cutL a S.j y = cutL base S.i x
          · have HE1 := HEQ.out (cutL a S.j y) (cutL base S.i x) _ _ wd HG.out.bel (HSL.out wd HG.out.bel).2.1 (HSL.out wd HG.out.bel).1
            rw [decide_eq_true eq1] at HE1
            have HE1 := Lib.hid HE1
            go_wp2_with fail
            refine HE1.out.mono ?_
            rintro e w5 ⟨rfl, hb1⟩
            have G5 := Lib.hid (HG.out.below hb1)
            clear hb1 HE1 HG
            go_wp2_with (at_builtin; first | ((refine wpList_appB2 rfl _ _ rfl i0 hi0 hz0 hz1 hz2 w3 w5 u11 u12 S.out (cutL b S.k z) S.cl rfl G5.out B2' (z - S.k) (c2 - S.k) rfl (HSL.out w5 G5.out.bel).2.2 hlb (by omega) ?_); intro v6 w6 hG6; have G6 := Lib.hid hG6; have e6 := HTX.out w6 G6.out.bel) | ((refine wpList_pushB (R := strR) rfl _ _ _ rfl w3.heap.size w3.heap.size 9 i0 _ 16 Tryz.underlying26 hi0 hz0 (by assumption) (by assumption) rfl (by decide) _ v6 (S.out ++ cutL b S.k z) rfl (G6.out.o1.alloc _) bx _ rfl (oneC rfl) w6.heap.size _ _ (heap_alloc_new w6 _) rfl (by simp only [List.length_append, maxLen]; omega) (by simp only [List.length_append]; omega) (by have := G6.out.bel.size; simp; omega) ?_); intro g7 cap7 w7 hown7 hg7 hat7 hlt7; have G7 := Lib.hid ((G6.out.alloc (.cells #[.string bx] 9)).more1 hown7 hg7 rfl hat7)))
            rw [List.length_append, hlb] at G7
            have HN2 := Lib.hid (show (⟨x + 1, y + 1, z + 1, S.out ++ cutL b S.k z ++ [bx], S.cl⟩ : MgS) = mgN base a b (faS base a) (faS base b) (x + 1) from by
              rw [HNX.out, dif_pos (by rw [HN.out]; exact hxn), HBX.out, show mgAdd (cutL base S.i x) (cutL a S.j y) (cutL b S.k z) = cutL b S.k z from by unfold mgAdd; rw [if_pos eq1], show mgClash (cutL base S.i x) (cutL a S.j y) (cutL b S.k z) = false from by unfold mgClash; rw [decide_eq_true eq1]; rfl]
              simp)
            try go_wp2
            go_roundw
            case rel => exact ⟨x + 1, ⟨x + 1, y + 1, z + 1, S.out ++ cutL b S.k z ++ [bx], S.cl⟩, by omega, intNum, intNum, intNum, intNum, HN2, G7⟩
            case measure => simp [intOf]; omega
          · have HE1 := HEQ.out (cutL a S.j y) (cutL base S.i x) _ _ wd HG.out.bel (HSL.out wd HG.out.bel).2.1 (HSL.out wd HG.out.bel).1
            rw [decide_eq_false eq1] at HE1
            have HE1 := Lib.hid HE1
            go_wp2_with fail
            refine HE1.out.mono ?_
            rintro e w5 ⟨rfl, hb1⟩
            have G5 := Lib.hid (HG.out.below hb1)
            clear hb1 HE1 HG
            by_cases eq2 : cutL b S.k z = cutL base S.i x
            · have HE2 := HEQ.out (cutL b S.k z) (cutL base S.i x) _ _ w5 G5.out.bel (HSL.out w5 G5.out.bel).2.2 (HSL.out w5 G5.out.bel).1
              rw [decide_eq_true eq2] at HE2
              have HE2 := Lib.hid HE2
              go_wp2_with fail
              refine HE2.out.mono ?_
              rintro e w8 ⟨rfl, hb2⟩
              have G8 := Lib.hid (G5.out.below hb2)
              clear hb2 HE2 G5
              go_wp2_with (at_builtin; first | ((refine wpList_appB2 rfl _ _ rfl i0 hi0 hz0 hz1 hz2 w3 w8 u11 u12 S.out (cutL a S.j y) S.cl rfl G8.out B1 (y - S.j) (c1 - S.j) rfl (HSL.out w8 G8.out.bel).2.1 hla (by omega) ?_); intro v6 w6 hG6; have G6 := Lib.hid hG6; have e6 := HTX.out w6 G6.out.bel) | ((refine wpList_pushB (R := strR) rfl _ _ _ rfl w3.heap.size w3.heap.size 9 i0 _ 16 Tryz.underlying26 hi0 hz0 (by assumption) (by assumption) rfl (by decide) _ v6 (S.out ++ cutL a S.j y) rfl (G6.out.o1.alloc _) bx _ rfl (oneC rfl) w6.heap.size _ _ (heap_alloc_new w6 _) rfl (by simp only [List.length_append, maxLen]; omega) (by simp only [List.length_append]; omega) (by have := G6.out.bel.size; simp; omega) ?_); intro g7 cap7 w7 hown7 hg7 hat7 hlt7; have G7 := Lib.hid ((G6.out.alloc (.cells #[.string bx] 9)).more1 hown7 hg7 rfl hat7)))
              rw [List.length_append, hla] at G7
              have HN2 := Lib.hid (show (⟨x + 1, y + 1, z + 1, S.out ++ cutL a S.j y ++ [bx], S.cl⟩ : MgS) = mgN base a b (faS base a) (faS base b) (x + 1) from by
                rw [HNX.out, dif_pos (by rw [HN.out]; exact hxn), HBX.out, show mgAdd (cutL base S.i x) (cutL a S.j y) (cutL b S.k z) = cutL a S.j y from by unfold mgAdd; rw [if_neg eq1, if_pos (.inl eq2)], show mgClash (cutL base S.i x) (cutL a S.j y) (cutL b S.k z) = false from by unfold mgClash; rw [decide_eq_true eq2]; simp]
                simp)
              try go_wp2
              go_roundw
              case rel => exact ⟨x + 1, ⟨x + 1, y + 1, z + 1, S.out ++ cutL a S.j y ++ [bx], S.cl⟩, by omega, intNum, intNum, intNum, intNum, HN2, G7⟩
              case measure => simp [intOf]; omega
            · have HE2 := HEQ.out (cutL b S.k z) (cutL base S.i x) _ _ w5 G5.out.bel (HSL.out w5 G5.out.bel).2.2 (HSL.out w5 G5.out.bel).1
              rw [decide_eq_false eq2] at HE2
              have HE2 := Lib.hid HE2
              go_wp2_with fail
              refine HE2.out.mono ?_
              rintro e w8 ⟨rfl, hb2⟩
              have G8 := Lib.hid (G5.out.below hb2)
              clear hb2 HE2 G5
              by_cases eq3 : cutL a S.j y = cutL b S.k z
              · have HE3 := HEQ.out (cutL a S.j y) (cutL b S.k z) _ _ w8 G8.out.bel (HSL.out w8 G8.out.bel).2.1 (HSL.out w8 G8.out.bel).2.2
                rw [decide_eq_true eq3] at HE3
                have HE3 := Lib.hid HE3
                go_wp2_with fail
                refine HE3.out.mono ?_
                rintro e w9 ⟨rfl, hb3⟩
                have G9 := Lib.hid (G8.out.below hb3)
                clear hb3 HE3 G8
                have EQ3 := Lib.hid eq3
                clear eq3
                go_wp2_with (at_builtin; first | ((refine wpList_appB2 rfl _ _ rfl i0 hi0 hz0 hz1 hz2 w3 w9 u11 u12 S.out (cutL a S.j y) S.cl rfl G9.out B1 (y - S.j) (c1 - S.j) rfl (HSL.out w9 G9.out.bel).2.1 hla (by omega) ?_); intro v6 w6 hG6; have G6 := Lib.hid hG6; have e6 := HTX.out w6 G6.out.bel) | ((refine wpList_pushB (R := strR) rfl _ _ _ rfl w3.heap.size w3.heap.size 9 i0 _ 16 Tryz.underlying26 hi0 hz0 (by assumption) (by assumption) rfl (by decide) _ v6 (S.out ++ cutL a S.j y) rfl (G6.out.o1.alloc _) bx _ rfl (oneC rfl) w6.heap.size _ _ (heap_alloc_new w6 _) rfl (by simp only [List.length_append, maxLen]; omega) (by simp only [List.length_append]; omega) (by have := G6.out.bel.size; simp; omega) ?_); intro g7 cap7 w7 hown7 hg7 hat7 hlt7; have G7 := Lib.hid ((G6.out.alloc (.cells #[.string bx] 9)).more1 hown7 hg7 rfl hat7)))
                rw [List.length_append, hla] at G7
                have HN2 := Lib.hid (show (⟨x + 1, y + 1, z + 1, S.out ++ cutL a S.j y ++ [bx], S.cl⟩ : MgS) = mgN base a b (faS base a) (faS base b) (x + 1) from by
                  rw [HNX.out, dif_pos (by rw [HN.out]; exact hxn), HBX.out, show mgAdd (cutL base S.i x) (cutL a S.j y) (cutL b S.k z) = cutL a S.j y from by unfold mgAdd; rw [if_neg eq1, if_pos (.inr EQ3.out)], show mgClash (cutL base S.i x) (cutL a S.j y) (cutL b S.k z) = false from by unfold mgClash; rw [decide_eq_true EQ3.out]; simp]
                  simp)
                try go_wp2
                go_roundw
                case rel => exact ⟨x + 1, ⟨x + 1, y + 1, z + 1, S.out ++ cutL a S.j y ++ [bx], S.cl⟩, by omega, intNum, intNum, intNum, intNum, HN2, G7⟩
                case measure => simp [intOf]; omega
              · have HE3 := HEQ.out (cutL a S.j y) (cutL b S.k z) _ _ w8 G8.out.bel (HSL.out w8 G8.out.bel).2.1 (HSL.out w8 G8.out.bel).2.2
                rw [decide_eq_false eq3] at HE3
                have HE3 := Lib.hid HE3
                go_wp2_with fail
                refine HE3.out.mono ?_
                rintro e w9 ⟨rfl, hb3⟩
                have G9 := Lib.hid (G8.out.below hb3)
                clear hb3 HE3 G8
                go_wp2_with (at_builtin; first | ((refine wpList_appB2 rfl _ _ rfl i0 hi0 hz0 hz1 hz2 w3 w9 u11 u12 S.out (cutL base S.i x) S.cl rfl G9.out B0 (x - S.i) (c0 - S.i) rfl (HSL.out w9 G9.out.bel).1 hlo (by omega) ?_); intro v6 wA hGA; have GA := Lib.hid hGA) | ((refine wpList_pushB (R := prR) rfl _ _ _ rfl w3.heap.size w3.heap.size 46 i2 _ 16 Tryz.underlying39 hi2 hy0 (by assumption) (by assumption) rfl (by decide) _ u12 S.cl rfl (GA.out.o2.alloc _) (S.i, x - S.i) [.int .i64 (S.i : Nat), .int .i64 ((x : Int) - S.i)] (by show _ = prC (S.i, x - S.i); unfold prC; rw [hxi]) (by intro u hu; simp at hu; rcases hu with rfl | rfl <;> rfl) wA.heap.size _ _ (heap_alloc_new wA _) rfl (by unfold maxLen; omega) (by omega) (by have := GA.out.bel.size; simp; omega) ?_); intro g9 cap9 w6 hown9 hg9 hat9 hlt9; have G6 := Lib.hid ((GA.out.alloc (.cells #[.int .i64 (S.i : Nat), .int .i64 ((x : Int) - S.i)] 46)).more2 hown9 hg9 rfl hat9); have e6 := HTX.out w6 G6.out.bel) | ((refine wpList_pushB (R := strR) rfl _ _ _ rfl w3.heap.size w3.heap.size 9 i0 _ 16 Tryz.underlying26 hi0 hz0 (by assumption) (by assumption) rfl (by decide) _ v6 (S.out ++ cutL base S.i x) rfl (G6.out.o1.alloc _) bx _ rfl (oneC rfl) w6.heap.size _ _ (heap_alloc_new w6 _) rfl (by simp only [List.length_append, maxLen]; omega) (by simp only [List.length_append]; omega) (by have := G6.out.bel.size; simp; omega) ?_); intro g7 cap7 w7 hown7 hg7 hat7 hlt7; have G7 := Lib.hid ((G6.out.alloc (.cells #[.string bx] 9)).more1 hown7 hg7 rfl hat7)))
                rw [List.length_append, hlo] at G7
                have HN2 := Lib.hid (show (⟨x + 1, y + 1, z + 1, S.out ++ cutL base S.i x ++ [bx], S.cl ++ [(S.i, x - S.i)]⟩ : MgS) = mgN base a b (faS base a) (faS base b) (x + 1) from by
                  rw [HNX.out, dif_pos (by rw [HN.out]; exact hxn), HBX.out, show mgAdd (cutL base S.i x) (cutL a S.j y) (cutL b S.k z) = cutL base S.i x from by unfold mgAdd; rw [if_neg eq1, if_neg (fun h => h.elim eq2 eq3)], show mgClash (cutL base S.i x) (cutL a S.j y) (cutL b S.k z) = true from by unfold mgClash; rw [decide_eq_false eq1, decide_eq_false eq2, decide_eq_false eq3]; rfl]
                  simp)
                try go_wp2
                go_roundw
                case rel => exact ⟨x + 1, ⟨x + 1, y + 1, z + 1, S.out ++ cutL base S.i x ++ [bx], S.cl ++ [(S.i, x - S.i)]⟩, by omega, intNum, intNum, intNum, intNum, HN2, G7⟩
                case measure => simp [intOf]; omega
        · have hx1 : ¬ (x : Int) < n := by omega
          by_cases eq1 : cutL a S.j y = cutL base S.i x
          · have HE1 := HEQ.out (cutL a S.j y) (cutL base S.i x) _ _ wd HG.out.bel (HSL.out wd HG.out.bel).2.1 (HSL.out wd HG.out.bel).1
            rw [decide_eq_true eq1] at HE1
            have HE1 := Lib.hid HE1
            go_wp2_with fail
            refine HE1.out.mono ?_
            rintro e w5 ⟨rfl, hb1⟩
            have G5 := Lib.hid (HG.out.below hb1)
            clear hb1 HE1 HG
            go_wp2_with (at_builtin; first | ((refine wpList_appB2 rfl _ _ rfl i0 hi0 hz0 hz1 hz2 w3 w5 u11 u12 S.out (cutL b S.k z) S.cl rfl G5.out B2' (z - S.k) (c2 - S.k) rfl (HSL.out w5 G5.out.bel).2.2 hlb (by omega) ?_); intro v6 w6 hG6; have G6 := Lib.hid hG6))
            have HN2 := Lib.hid (show (⟨x + 1, y + 1, z + 1, S.out ++ cutL b S.k z, S.cl⟩ : MgS) = mgN base a b (faS base a) (faS base b) (x + 1) from by
              rw [HNX.out, dif_neg (by rw [HN.out]; omega), show mgAdd (cutL base S.i x) (cutL a S.j y) (cutL b S.k z) = cutL b S.k z from by unfold mgAdd; rw [if_pos eq1], show mgClash (cutL base S.i x) (cutL a S.j y) (cutL b S.k z) = false from by unfold mgClash; rw [decide_eq_true eq1]; rfl]
              simp)
            try go_wp2
            go_roundw
            case rel => exact ⟨x + 1, ⟨x + 1, y + 1, z + 1, S.out ++ cutL b S.k z, S.cl⟩, by omega, intNum, intNum, intNum, intNum, HN2, G6⟩
            case measure => simp [intOf]; omega
          · have HE1 := HEQ.out (cutL a S.j y) (cutL base S.i x) _ _ wd HG.out.bel (HSL.out wd HG.out.bel).2.1 (HSL.out wd HG.out.bel).1
            rw [decide_eq_false eq1] at HE1
            have HE1 := Lib.hid HE1
            go_wp2_with fail
            refine HE1.out.mono ?_
            rintro e w5 ⟨rfl, hb1⟩
            have G5 := Lib.hid (HG.out.below hb1)
            clear hb1 HE1 HG
            by_cases eq2 : cutL b S.k z = cutL base S.i x
            · have HE2 := HEQ.out (cutL b S.k z) (cutL base S.i x) _ _ w5 G5.out.bel (HSL.out w5 G5.out.bel).2.2 (HSL.out w5 G5.out.bel).1
              rw [decide_eq_true eq2] at HE2
              have HE2 := Lib.hid HE2
              go_wp2_with fail
              refine HE2.out.mono ?_
              rintro e w8 ⟨rfl, hb2⟩
              have G8 := Lib.hid (G5.out.below hb2)
              clear hb2 HE2 G5
              go_wp2_with (at_builtin; first | ((refine wpList_appB2 rfl _ _ rfl i0 hi0 hz0 hz1 hz2 w3 w8 u11 u12 S.out (cutL a S.j y) S.cl rfl G8.out B1 (y - S.j) (c1 - S.j) rfl (HSL.out w8 G8.out.bel).2.1 hla (by omega) ?_); intro v6 w6 hG6; have G6 := Lib.hid hG6))
              have HN2 := Lib.hid (show (⟨x + 1, y + 1, z + 1, S.out ++ cutL a S.j y, S.cl⟩ : MgS) = mgN base a b (faS base a) (faS base b) (x + 1) from by
                rw [HNX.out, dif_neg (by rw [HN.out]; omega), show mgAdd (cutL base S.i x) (cutL a S.j y) (cutL b S.k z) = cutL a S.j y from by unfold mgAdd; rw [if_neg eq1, if_pos (.inl eq2)], show mgClash (cutL base S.i x) (cutL a S.j y) (cutL b S.k z) = false from by unfold mgClash; rw [decide_eq_true eq2]; simp]
                simp)
              try go_wp2
              go_roundw
              case rel => exact ⟨x + 1, ⟨x + 1, y + 1, z + 1, S.out ++ cutL a S.j y, S.cl⟩, by omega, intNum, intNum, intNum, intNum, HN2, G6⟩
              case measure => simp [intOf]; omega
            · have HE2 := HEQ.out (cutL b S.k z) (cutL base S.i x) _ _ w5 G5.out.bel (HSL.out w5 G5.out.bel).2.2 (HSL.out w5 G5.out.bel).1
              rw [decide_eq_false eq2] at HE2
              have HE2 := Lib.hid HE2
              go_wp2_with fail
              refine HE2.out.mono ?_
              rintro e w8 ⟨rfl, hb2⟩
              have G8 := Lib.hid (G5.out.below hb2)
              clear hb2 HE2 G5
              by_cases eq3 : cutL a S.j y = cutL b S.k z
              · have HE3 := HEQ.out (cutL a S.j y) (cutL b S.k z) _ _ w8 G8.out.bel (HSL.out w8 G8.out.bel).2.1 (HSL.out w8 G8.out.bel).2.2
                rw [decide_eq_true eq3] at HE3
                have HE3 := Lib.hid HE3
                go_wp2_with fail
                refine HE3.out.mono ?_
                rintro e w9 ⟨rfl, hb3⟩
                have G9 := Lib.hid (G8.out.below hb3)
                clear hb3 HE3 G8
                have EQ3 := Lib.hid eq3
                clear eq3
                go_wp2_with (at_builtin; first | ((refine wpList_appB2 rfl _ _ rfl i0 hi0 hz0 hz1 hz2 w3 w9 u11 u12 S.out (cutL a S.j y) S.cl rfl G9.out B1 (y - S.j) (c1 - S.j) rfl (HSL.out w9 G9.out.bel).2.1 hla (by omega) ?_); intro v6 w6 hG6; have G6 := Lib.hid hG6))
                have HN2 := Lib.hid (show (⟨x + 1, y + 1, z + 1, S.out ++ cutL a S.j y, S.cl⟩ : MgS) = mgN base a b (faS base a) (faS base b) (x + 1) from by
                  rw [HNX.out, dif_neg (by rw [HN.out]; omega), show mgAdd (cutL base S.i x) (cutL a S.j y) (cutL b S.k z) = cutL a S.j y from by unfold mgAdd; rw [if_neg eq1, if_pos (.inr EQ3.out)], show mgClash (cutL base S.i x) (cutL a S.j y) (cutL b S.k z) = false from by unfold mgClash; rw [decide_eq_true EQ3.out]; simp]
                  simp)
                try go_wp2
                go_roundw
                case rel => exact ⟨x + 1, ⟨x + 1, y + 1, z + 1, S.out ++ cutL a S.j y, S.cl⟩, by omega, intNum, intNum, intNum, intNum, HN2, G6⟩
                case measure => simp [intOf]; omega
              · have HE3 := HEQ.out (cutL a S.j y) (cutL b S.k z) _ _ w8 G8.out.bel (HSL.out w8 G8.out.bel).2.1 (HSL.out w8 G8.out.bel).2.2
                rw [decide_eq_false eq3] at HE3
                have HE3 := Lib.hid HE3
                go_wp2_with fail
                refine HE3.out.mono ?_
                rintro e w9 ⟨rfl, hb3⟩
                have G9 := Lib.hid (G8.out.below hb3)
                clear hb3 HE3 G8
                go_wp2_with (at_builtin; first | ((refine wpList_appB2 rfl _ _ rfl i0 hi0 hz0 hz1 hz2 w3 w9 u11 u12 S.out (cutL base S.i x) S.cl rfl G9.out B0 (x - S.i) (c0 - S.i) rfl (HSL.out w9 G9.out.bel).1 hlo (by omega) ?_); intro v6 wA hGA; have GA := Lib.hid hGA) | ((refine wpList_pushB (R := prR) rfl _ _ _ rfl w3.heap.size w3.heap.size 46 i2 _ 16 Tryz.underlying39 hi2 hy0 (by assumption) (by assumption) rfl (by decide) _ u12 S.cl rfl (GA.out.o2.alloc _) (S.i, x - S.i) [.int .i64 (S.i : Nat), .int .i64 ((x : Int) - S.i)] (by show _ = prC (S.i, x - S.i); unfold prC; rw [hxi]) (by intro u hu; simp at hu; rcases hu with rfl | rfl <;> rfl) wA.heap.size _ _ (heap_alloc_new wA _) rfl (by unfold maxLen; omega) (by omega) (by have := GA.out.bel.size; simp; omega) ?_); intro g9 cap9 w6 hown9 hg9 hat9 hlt9; have G6 := Lib.hid ((GA.out.alloc (.cells #[.int .i64 (S.i : Nat), .int .i64 ((x : Int) - S.i)] 46)).more2 hown9 hg9 rfl hat9)))
                have HN2 := Lib.hid (show (⟨x + 1, y + 1, z + 1, S.out ++ cutL base S.i x, S.cl ++ [(S.i, x - S.i)]⟩ : MgS) = mgN base a b (faS base a) (faS base b) (x + 1) from by
                  rw [HNX.out, dif_neg (by rw [HN.out]; omega), show mgAdd (cutL base S.i x) (cutL a S.j y) (cutL b S.k z) = cutL base S.i x from by unfold mgAdd; rw [if_neg eq1, if_neg (fun h => h.elim eq2 eq3)], show mgClash (cutL base S.i x) (cutL a S.j y) (cutL b S.k z) = true from by unfold mgClash; rw [decide_eq_false eq1, decide_eq_false eq2, decide_eq_false eq3]; rfl]
                  simp)
                try go_wp2
                go_roundw
                case rel => exact ⟨x + 1, ⟨x + 1, y + 1, z + 1, S.out ++ cutL base S.i x, S.cl ++ [(S.i, x - S.i)]⟩, by omega, intNum, intNum, intNum, intNum, HN2, G6⟩
                case measure => simp [intOf]; omega
    · have hxN : x = n + 1 := by omega
      subst hxN
      have HSE := Lib.hid (show S = mgE base a b by rw [HST.out]; unfold mgE; rw [HN.out])
      have hlen := mgE_len base a b
      rw [HN.out, HP.out, HQ.out] at hlen
      have HLG := large_c S.out u11 wr (HG.out.o1.sli (F := fun _ => True) (fun _ _ _ => trivial) (fun _ _ => trivial))
      rw [decide_eq_false (by rw [HSE.out]; omega)] at HLG
      have HLG := Lib.hid HLG
      clear hlen
      go_wp2_with fail
      refine HLG.out.mono ?_
      rintro e w5 ⟨rfl, rfl⟩
      go_wp2
      go_ret3
      exact ⟨_, _, rfl, HB3.out.trans (HG.out.bel.mono HB3.out.size), by rw [← HSE.out]; exact Own.less (enc := fun s : ByteArray => [.string s]) (hn := fun _ => rfl) HG.out.o1 HB3.out.size, by rw [← HSE.out]; exact Own.less (enc := prC) (hn := fun _ => rfl) HG.out.o2 HB3.out.size⟩
end Go.Proofs.YtnnnmbipmfopmaaGreatDoor

/- Lists of clashes compared, walked. -/
namespace Go.Proofs.YtnnnmbipmfopmaaGreatDoor
set_option linter.unusedVariables false
open Go.RowKit Go.Sort

set_option maxRecDepth 100000 in
set_option maxHeartbeats 1600000 in
theorem eqCl_c {F : Nat → Prop} (l : List (Nat × Nat)) (v1 v2 : Value) (w : World) (h1 : Sli prR w F l v1) (h2 : Sli prR w F l v2) (hF : ∀ b, F b → b < w.heap.size) :
    Calls Tryz.prog 17 #[v1, v2] w fun e w' => e = .returned (.bool true) ∧ Below w.heap.size w w' := by
  obtain ⟨A1, c1, rfl, hlc1, hc1⟩ := h1.form
  obtain ⟨A2, c2, rfl, hlc2, hc2⟩ := h2.form
  have H1 := Lib.hid h1; clear h1
  have H2 := Lib.hid h2; clear h2
  have HF := Lib.hid hF; clear hF
  obtain ⟨n, hn⟩ : ∃ n, l.length = n := ⟨_, rfl⟩
  have HN := Lib.hid hn
  rw [hn] at H1 H2 hlc1 ⊢
  clear hn
  go_enter Tryz.func17, Tryz.ntmps17
  go_wp2
  go_loopw [13] (fun i wr => ∃ k : Nat, k ≤ n ∧ i = .int .i64 k ∧ Hid (Below w.heap.size w wr)) (fun i _ => n - (intOf i).toNat)
  case atStart => exact ⟨0, Nat.zero_le _, rfl, Below.refl _ _⟩
  case round =>
    obtain ⟨k, hk, rfl, hb⟩ := hrel
    by_cases hlt : k < n
    · obtain ⟨b, off, rfl, hfb, c0, c1⟩ := prAt (H1.out.below hb.out HF.out) k (by rw [HN.out]; exact hlt)
      obtain ⟨b2, off2, rfl, hfb2, d0, d1⟩ := prAt (H2.out.below hb.out HF.out) k (by rw [HN.out]; exact hlt)
      generalize (l[k]'(by rw [HN.out]; exact hlt)).1 = x at *
      generalize (l[k]'(by rw [HN.out]; exact hlt)).2 = y at *
      go_upto_region 6 with (fail)
      go_region
      go_wp2
      go_roundw
      case rel => exact ⟨k + 1, by omega, intNum, Lib.hid (hb.out.trans ((Below.refl _ wr).drew.mono hb.out.size))⟩
      case measure => simp [intOf]; omega
    · go_wp2
      go_ret
      exact ⟨rfl, hb.out⟩
end Go.Proofs.YtnnnmbipmfopmaaGreatDoor

/- R.MergeOf: its closure, walked: a map of lines' partners. -/
namespace Go.Proofs.YtnnnmbipmfopmaaGreatDoor
set_option linter.unusedVariables false
open Go.RowKit Go.Sort

/-- A map's first entry, laid by a literal. -/
theorem wpList_insert_plain {P : Program} {κ : Type} [DecidableEq κ] {mk : κ → Value} (w : World) {ops : Array Oper} {rest : List Oper} {o : Oper} {a : Act} {Q : Exit → Act → World → Prop}
    (hg : o.guard = none) (mo xo vo : Operand) (t : TypeId) (hop : o.op = Op.insert t mo xo vo) (k e : TypeId) (K : PlainKey P k mk) (ht : P.underlying t = some (.map k e))
    (b : Nat) (m : List (κ × Value)) (hm : a.eval mo = .map (some b)) (h : MapL w b mk m) (x : κ) (hx : a.eval xo = mk x) (v : Value) (hv : a.eval vo = v)
    (hK : ∀ w', MapL w' b mk (up m x v) → w.grownBy w' (some b) → wpList P ops Q rest (a.put o.dst undef) w') :
    wpList P ops Q (o :: rest) a w := by
  refine wpList_plain hg fun K' hK' => ?_
  obtain ⟨w', hrun, r1, r2⟩ := run_update_plain K ht h x v
  unfold Oper.wp
  simp [execOp, hop, hm, hx, hv, hrun, Result.andThen]
  exact hK' _ _ (hK w' r1 r2)
def toM (n : Nat) (l : List (Nat × Nat)) : List (Int × Value) := l.foldl (fun m p => up m (p.1 : Int) (.int .i64 (p.2 : Nat))) (up [] (n : Int) (.int .i64 (-1)))
theorem toM_snoc (n : Nat) (l : List (Nat × Nat)) (p : Nat × Nat) : toM n (l ++ [p]) = up (toM n l) (p.1 : Int) (.int .i64 (p.2 : Nat)) := by simp [toM]
theorem toM_lk (n : Nat) (l : List (Nat × Nat)) (h1 : l.Pairwise fun p q => p.1 < q.1 ∧ p.2 < q.2) (h2 : ∀ p ∈ l, p.1 < n) (x : Nat) (hx : x < n) : ∀ k, k ≤ l.length → lk (toM n (l.take k)) (x : Int) = (prtN (l.take k) x).map fun y => Value.int .i64 (y : Nat)
  | 0, _ => by
    show lk (up [] (n : Int) _) (x : Int) = _
    rw [lk_up, if_neg (by omega)]
    rfl
  | k + 1, hk => by
    have ih := toM_lk n l h1 h2 x hx k (by omega)
    rw [List.take_succ_eq_append_getElem (by omega), toM_snoc, lk_up, prtN_snoc (fun q hq => by
      obtain ⟨j, hj, rfl⟩ := List.getElem_of_mem hq
      rw [List.length_take] at hj
      have := List.pairwise_iff_getElem.1 h1 j k (by omega) (by omega) (by omega)
      rw [List.getElem_take]
      omega)]
    by_cases e : x = (l[k]).1
    · rw [if_pos (by omega), if_pos e]; rfl
    · rw [if_neg (by omega), if_neg e]
      exact ih
def TomP (n : Nat) (l : List (Nat × Nat)) (w : World) (e : Ending) (w' : World) : Prop := ∃ b, e = .returned (.map (some b)) ∧ Below w.heap.size w w' ∧ w.heap.size ≤ b ∧ MapL w' b (Value.int .i64) (toM n l)
set_option maxRecDepth 100000 in
set_option maxHeartbeats 4000000 in
theorem to_c {F : Nat → Prop} (l : List (Nat × Nat)) (v : Value) (X n c : Nat) (A : Option Addr) (w : World) (h : Sli prR w F l v) (hF : ∀ q, F q → q < w.heap.size) (hX : w.cell? ⟨X, 0, none⟩ = some (.slice A n c)) (hXl : X < w.heap.size) (hn : n ≤ 100000) (hl : l.length ≤ 100000) (hb : ∀ p ∈ l, p.1 ≤ 100000 ∧ p.2 ≤ 100000) :
    Calls Tryz.prog 29 #[v, .pointer (some ⟨X, 0, none⟩)] w (TomP n l w) := by
  obtain ⟨A1, c1, rfl, hlc, hc1⟩ := h.form
  obtain ⟨L, hL⟩ : ∃ L, l.length = L := ⟨_, rfl⟩
  have HL := Lib.hid hL
  have HS := Lib.hid (fun (W : World) (hw : Below w.heap.size w W) => h.below hw hF)
  have HB := Lib.hid hb
  rw [hL] at HS hl hlc ⊢
  have K : PlainKey Tryz.prog 3 (Value.int .i64) := plainKey_int Tryz.underlying3
  clear h hF hL hb
  have hXa : (w.alloc (.map #[] 0)).cell? ⟨X, 0, none⟩ = some (.slice A n c) := ((Below.refl w.heap.size w).alloc (Nat.le_refl _) (.map #[] 0)).cell hXl |>.trans hX
  have M0 := Lib.hid (MapL.made (κ := Int) (mk := Value.int .i64) w)
  have HB0 := Lib.hid ((Below.refl w.heap.size w).alloc (Nat.le_refl _) (.map #[] 0))
  have hmm := @run_makeMap Tryz.prog
  go_enter Tryz.func29, Tryz.ntmps29
  go_wp2_with (refine wpList_insert_plain (mk := Value.int .i64) (κ := Int) _ rfl _ _ _ _ rfl 3 3 K (by kernel_rfl) w.heap.size [] rfl M0.out (n : Int) rfl (.int .i64 (-1)) rfl ?_; intro w1 hm1 hg1)
  have G1 := Lib.hid (show Below w.heap.size w w1 from HB0.out.grown hg1 HB0.out.size (fun q hq => by injection hq with hq; omega))
  have M1 := Lib.hid hm1
  clear hm1 hg1 hX hXa M0 HB0
  clear hmm
  go_wp2
  go_loopw [13] (fun s13 wr => ∃ k : Nat, k ≤ L ∧ s13 = .int .i64 k ∧ Hid (MapL wr w.heap.size (Value.int .i64) (toM n (l.take k))) ∧ Hid (Below w.heap.size w wr)) (fun s13 _ => L - (intOf s13).toNat)
  case atStart => exact ⟨0, Nat.zero_le _, rfl, M1, G1⟩
  case round =>
    clear M1 G1
    obtain ⟨k, hk, rfl, HM, HG⟩ := hrel
    by_cases hlt : k < L
    · obtain ⟨b9, o9, he9, hb9, c0, c1⟩ := prAt (HS.out wr HG.out) k (by rw [HL.out]; exact hlt)
      have hbd := HB.out _ (List.getElem_mem (show k < l.length by rw [HL.out]; exact hlt))
      have HTS := Lib.hid (show toM n (l.take (k + 1)) = up (toM n (l.take k)) ((l[k]'(by rw [HL.out]; exact hlt)).1 : Int) (.int .i64 ((l[k]'(by rw [HL.out]; exact hlt)).2 : Nat)) by rw [List.take_succ_eq_append_getElem (by rw [HL.out]; exact hlt), toM_snoc])
      subst he9
      generalize (l[k]'(by rw [HL.out]; exact hlt)).1 = p1 at *
      generalize (l[k]'(by rw [HL.out]; exact hlt)).2 = p2 at *
      have M2 := Lib.hid (HM.out.alloc (.cells #[.int .i64 (p1 : Nat), .int .i64 (p2 : Nat)] 74))
      have G2 := Lib.hid (HG.out.alloc HG.out.size (.cells #[.int .i64 (p1 : Nat), .int .i64 (p2 : Nat)] 74))
      go_wp2_with (refine wpList_update_plain (mk := Value.int .i64) (κ := Int) _ rfl _ _ _ _ rfl 3 3 K (by kernel_rfl) w.heap.size (toM n (l.take k)) rfl M2.out (p1 : Int) rfl (.int .i64 (p2 : Nat)) rfl ?_; intro w4 hm4 hg4)
      have M4 := Lib.hid (by rw [← HTS.out] at hm4; exact hm4)
      have G4 := Lib.hid (show RowKit.Below w.heap.size w w4 from G2.out.grown hg4 G2.out.size (fun q hq => by injection hq with hq; omega))
      clear hm4 hg4 M2 G2 HM HG HTS c0 c1
      try go_wp2
      go_roundw
      case rel => exact ⟨k + 1, by omega, intNum, M4, G4⟩
      case measure => simp [intOf]; omega
    · have hkL : k = L := by omega
      have HF := Lib.hid (show MapL wr w.heap.size (Value.int .i64) (toM n l) from by have := HM.out; rw [List.take_of_length_le (by rw [HL.out]; omega)] at this; exact this)
      go_wp2
      go_ret
      exact ⟨_, rfl, HG.out, Nat.le_refl _, HF.out⟩
end Go.Proofs.YtnnnmbipmfopmaaGreatDoor

/- R.MergeOf, walked. -/
namespace Go.Proofs.YtnnnmbipmfopmaaGreatDoor
set_option linter.unusedVariables false
open Go.RowKit Go.Sort

def MofP (base a b : List ByteArray) (w : World) (e : Ending) (w' : World) : Prop := ∃ v u, e = .returned (.tuple #[v, u]) ∧ Below w.heap.size w w' ∧ Own strR w' w.heap.size w.heap.size 9 (mgE base a b).out v ∧ Own prR w' w.heap.size w.heap.size 46 (mgE base a b).cl u
set_option maxRecDepth 100000 in
set_option maxHeartbeats 16000000 in
theorem MergeOf_c {F : Nat → Prop} (base a b : List ByteArray) (v0 va vb : Value) (w : World) (h0 : Sli strR w F base v0) (ha : Sli strR w F a va) (hb : Sli strR w F b vb) (hF : ∀ q, F q → q < w.heap.size) (hn0 : base.length ≤ 500) (hna : a.length ≤ 500) (hnb : b.length ≤ 500) :
    Calls Tryz.prog 16 #[v0, va, vb] w (MofP base a b w) := by
  have HPA := Lib.hid (fun (W : World) (hw : Below w.heap.size w W) => show Calls Tryz.prog 30 #[v0, va] W (PairP (prX base a) W) from PairsOf_c base a v0 va W (h0.below hw hF) (ha.below hw hF) (fun q hq => by have := hF q hq; have := hw.size; omega) (fun q hq => by have := hF q hq; have := hw.size; omega) (by omega) (by omega))
  have HPB := Lib.hid (fun (W : World) (hw : Below w.heap.size w W) => show Calls Tryz.prog 30 #[v0, vb] W (PairP (prX base b) W) from PairsOf_c base b v0 vb W (h0.below hw hF) (hb.below hw hF) (fun q hq => by have := hF q hq; have := hw.size; omega) (fun q hq => by have := hF q hq; have := hw.size; omega) (by omega) (by omega))
  obtain ⟨A0, c0, rfl, hl0, hc0⟩ := h0.form
  obtain ⟨A1, c1, rfl, hl1, hc1⟩ := ha.form
  obtain ⟨A2, c2, rfl, hl2, hc2⟩ := hb.form
  obtain ⟨n, hn⟩ : ∃ n, base.length = n := ⟨_, rfl⟩
  obtain ⟨p, hp⟩ : ∃ p, a.length = p := ⟨_, rfl⟩
  obtain ⟨q, hq⟩ : ∃ q, b.length = q := ⟨_, rfl⟩
  have HN := Lib.hid hn
  have HP := Lib.hid hp
  have HQ := Lib.hid hq
  have HF := Lib.hid hF
  have HS := Lib.hid (fun (W : World) (hw : Below w.heap.size w W) => And.intro (h0.below hw hF) (And.intro (ha.below hw hF) (hb.below hw hF)))
  have hxa : (prX base a).length ≤ 1000 := by have := prX_le base a; omega
  have hxb : (prX base b).length ≤ 1000 := by have := prX_le base b; omega
  have HTA := Lib.hid (fun (v : Value) (W : World) (G : Nat → Prop) (h : Sli prR W G (prX base a) v) (hG : ∀ q, G q → q < W.heap.size) (hX : W.cell? ⟨w.heap.size, 0, none⟩ = some (.slice A0 n c0)) (hXl : w.heap.size < W.heap.size) => to_c (prX base a) v w.heap.size n c0 A0 W h hG hX hXl (by omega) (by omega) (fun r hr => by have := prX_in hr; omega))
  have HTB := Lib.hid (fun (v : Value) (W : World) (G : Nat → Prop) (h : Sli prR W G (prX base b) v) (hG : ∀ q, G q → q < W.heap.size) (hX : W.cell? ⟨w.heap.size, 0, none⟩ = some (.slice A0 n c0)) (hXl : w.heap.size < W.heap.size) => to_c (prX base b) v w.heap.size n c0 A0 W h hG hX hXl (by omega) (by omega) (fun r hr => by have := prX_in hr; omega))
  rw [hn] at HPA HPB HS hl0 hn0 ⊢
  rw [hp] at HPA HS hl1 hna ⊢
  rw [hq] at HPB HS hl2 hnb ⊢
  have HB1 := Lib.hid ((Below.refl w.heap.size w).alloc (Nat.le_refl _) (.cells #[.slice A0 n c0] 26))
  have hc1 : (w.alloc (.cells #[.slice A0 n c0] 26)).cell? ⟨w.heap.size, 0, none⟩ = some (.slice A0 n c0) := (str_cells (heap_alloc_new w _)).1 0
  have hs1 : (w.alloc (.cells #[.slice A0 n c0] 26)).heap.size = w.heap.size + 1 := by simp
  clear h0 ha hb hF hn hp hq
  go_enter Tryz.func16, Tryz.ntmps16
  go_upto_region 2 with (fail)
  obtain ⟨W1, hW1⟩ : ∃ W1, w.alloc (.cells #[.slice A0 n c0] 26) = W1 := ⟨_, rfl⟩
  rw [hW1] at HB1 hc1 hs1 ⊢
  clear hW1
  have HXC := Lib.hid (fun (W : World) (hw : Below W1.heap.size W1 W) => show W.cell? ⟨w.heap.size, 0, none⟩ = some (.slice A0 n c0) ∧ Below w.heap.size w W ∧ w.heap.size < W.heap.size from ⟨(hw.cell (p := ⟨w.heap.size, 0, none⟩) (by dsimp only; omega)).trans hc1, HB1.out.trans (hw.mono HB1.out.size), by have := hw.size; omega⟩)
  obtain ⟨ι, ff, hne, hff, hfS⟩ := family (fun W => W.cell? ⟨w.heap.size, 0, none⟩ = some (.slice A0 n c0)) W1 hc1
  have hneW : Nonempty World := ⟨w⟩
  have s0 := fun p => hff p
  have HFS := Lib.hid hfS
  clear hff hfS
  refine wp_region_segs2 [3, 4, 8, 9] [10, 11] [] [([0, 2, 5, 7], [1, 6], 3), ([], [], 4), ([], [], 8), ([], [], 9)] (by kernel_rfl) (by kernel_rfl) (fun _ _ _ dd _ h => by cases dd <;> exact h) (fun W => ∃ p : ι, W = ff p) (HFS.out _ hc1) ?_
  refine wpSegs2_step (by simp only [pick, List.getElem?_cons_succ, List.getElem?_cons_zero]; rfl) (by simp only [pick, List.getElem?_cons_succ, List.getElem?_cons_zero]; rfl) rfl (fun K0 hK0 L0 hL0 => ?_)
  repeat (first | go_big_quiet_step (fail) | quiet_step (fail))
  refine wpQuiet_nil (hL0 _ ?_)
  repeat (first | go_big_quiet_step (fail) | quiet_step (fail))
  refine wpQuiet_nil ?_
  go_simp
  refine (HPA.out W1.drew (HXC.out _ (Below.refl _ W1).drew).2.1).mono ?_
  rintro e w2 ⟨v2, rfl, hown2, hb2⟩
  have HB2 := Lib.hid (show Below W1.heap.size W1 w2 from (Below.refl _ W1).drew.trans hb2)
  refine hK0 (fun W => ∃ p : ι, W = ff p) _ _ (fun _ h => h) (HFS.out _ (HXC.out _ HB2.out).1) ?_
  have HT2 := HTA.out v2 w2 (fun q => q < w2.heap.size) (hown2.sli (fun q _ h => h) (fun g hg => (hown2.block g hg).2)) (fun q h => h) (HXC.out _ HB2.out).1 (HXC.out _ HB2.out).2.2
  unfold TomP at HT2
  have HT2 := Lib.hid HT2
  clear hown2 hb2
  refine wpSegs2_step (by simp only [pick, List.getElem?_cons_succ, List.getElem?_cons_zero]; rfl) (by simp only [pick, List.getElem?_cons_succ, List.getElem?_cons_zero]; rfl) rfl (fun K1 hK1 L1 hL1 => ?_)
  repeat (first | go_big_quiet_step (fail) | quiet_step (fail))
  refine wpQuiet_nil (hL1 _ ?_)
  repeat (first | go_big_quiet_step (fail) | quiet_step (fail))
  refine wpQuiet_nil ?_
  go_simp
  refine HT2.out.mono ?_
  rintro e w3 ⟨mA, rfl, hb3, hmA, hMA⟩
  have HB3 := Lib.hid (HB2.out.trans (hb3.mono HB2.out.size))
  have HMA := Lib.hid hMA
  have hz3 := hb3.size
  refine hK1 (fun W => ∃ p : ι, W = ff p) _ _ (fun _ h => h) (HFS.out _ (HXC.out _ HB3.out).1) ?_
  clear hb3 hMA HT2
  refine wpSegs2_step (by simp only [pick, List.getElem?_cons_succ, List.getElem?_cons_zero]; rfl) (by simp only [pick, List.getElem?_cons_succ, List.getElem?_cons_zero]; rfl) rfl (fun K2 hK2 L2 hL2 => ?_)
  repeat (first | go_big_quiet_step (fail) | quiet_step (fail))
  refine wpQuiet_nil (hL2 _ ?_)
  repeat (first | go_big_quiet_step (fail) | quiet_step (fail))
  refine wpQuiet_nil ?_
  go_simp
  refine (HPB.out w3 (HXC.out _ HB3.out).2.1).mono ?_
  rintro e w4 ⟨v4, rfl, hown4, hb4⟩
  have HB4 := Lib.hid (HB3.out.trans (hb4.mono HB3.out.size))
  have HMA4 := Lib.hid (HMA.out.below hb4 HMA.out.lt)
  have hz4 := hb4.size
  refine hK2 (fun W => ∃ p : ι, W = ff p) _ _ (fun _ h => h) (HFS.out _ (HXC.out _ HB4.out).1) ?_
  have HT4 := HTB.out v4 w4 (fun q => q < w4.heap.size) (hown4.sli (fun q _ h => h) (fun g hg => (hown4.block g hg).2)) (fun q h => h) (HXC.out _ HB4.out).1 (HXC.out _ HB4.out).2.2
  unfold TomP at HT4
  have HT4 := Lib.hid HT4
  have hltA : mA < w4.heap.size := HMA4.out.lt
  clear hown4 hb4 HMA
  refine wpSegs2_step (by simp only [pick, List.getElem?_cons_succ, List.getElem?_cons_zero]; rfl) (by simp only [pick, List.getElem?_cons_succ, List.getElem?_cons_zero]; rfl) rfl (fun K3 hK3 L3 hL3 => ?_)
  repeat (first | go_big_quiet_step (fail) | quiet_step (fail))
  refine wpQuiet_nil (hL3 _ ?_)
  repeat (first | go_big_quiet_step (fail) | quiet_step (fail))
  refine wpQuiet_nil ?_
  go_simp
  refine HT4.out.mono ?_
  rintro e w5 ⟨mB, rfl, hb5, hmB, hMB⟩
  have HB5 := Lib.hid (HB4.out.trans (hb5.mono HB4.out.size))
  have HMA5 := Lib.hid (HMA4.out.below hb5 hltA)
  have HMB5 := Lib.hid hMB
  refine hK3 (fun W => ∃ p : ι, W = ff p) _ _ (fun _ h => h) (HFS.out _ (HXC.out _ HB5.out).1) ?_
  clear hb5 hMB HT4 HMA4
  refine wpSegs2_fin (by simp only [pick, List.getElem?_cons_succ, List.getElem?_cons_zero]; rfl) (by simp only [pick, List.getElem?_cons_succ, List.getElem?_cons_zero]; rfl) (fun L4 hL4 => ?_)
  repeat (first | go_big_quiet_step (fail) | quiet_step (fail))
  refine wpQuiet_nil (hL4 _ ?_)
  repeat (first | go_big_quiet_step (fail) | quiet_step (fail))
  refine wpQuiet_nil ?_
  clear s0 hK0 hK1 hK2 hK3
  have K : PlainKey Tryz.prog 3 (Value.int .i64) := plainKey_int Tryz.underlying3
  have hne : mB ≠ mA := by omega
  have hwA : w.heap.size ≤ mA := by have := (HXC.out _ HB2.out).2.1.size; omega
  have hwB : w.heap.size ≤ mB := by have := (HXC.out _ HB4.out).2.1.size; omega
  obtain ⟨wA, hrA, hmA1, hgA1⟩ := run_update_plain (P := Tryz.prog) (t := 73) (k := 3) (e := 3) K (by kernel_rfl) (show MapL w5.drew mA (Value.int .i64) (toM n (prX base a)) from HMA5.out) (n : Int) (.int .i64 (p : Nat))
  have hltB : mB < w5.heap.size := HMB5.out.lt
  have hMB1 : MapL wA mB (Value.int .i64) (toM n (prX base b)) := HMB5.out.keep (hgA1.block mB hltB (by intro e; injection e with e; exact hne e))
  obtain ⟨wB, hrB, hmB1, hgB1⟩ := run_update_plain (P := Tryz.prog) (t := 73) (k := 3) (e := 3) K (by kernel_rfl) hMB1 (n : Int) (.int .i64 (q : Nat))
  have hMA2 : MapL wB mA (Value.int .i64) (up (toM n (prX base a)) (n : Int) (.int .i64 (p : Nat))) := hmA1.keep (hgB1.block mA hmA1.lt (by intro e; injection e with e; exact hne e.symm))
  have HBA := Lib.hid (show Below w.heap.size w wA from ((HXC.out _ HB5.out).2.1.drew).grown hgA1 (HXC.out _ HB5.out).2.1.drew.size (fun q hq => by injection hq with hq; omega))
  have HBB := Lib.hid (show Below w.heap.size w wB from HBA.out.grown hgB1 HBA.out.size (fun q hq => by injection hq with hq; omega))
  have HM1 := Lib.hid hMA2
  have HM2 := Lib.hid hmB1
  have hxc5 := (HXC.out _ HB5.out).1
  have hxl5 := (HXC.out _ HB5.out).2.2
  have hxcA : wA.cell? ⟨w.heap.size, 0, none⟩ = some (.slice A0 n c0) := (World.cell?_of_block (a := ⟨w.heap.size, 0, none⟩) (hgA1.block w.heap.size hxl5 (by intro e; injection e with e; have := (HXC.out _ HB2.out).2.2; omega))).trans hxc5
  have hxlA : w.heap.size < wA.heap.size := Nat.lt_of_lt_of_le hxl5 hgA1.size
  have HCB := Lib.hid (show wB.cell? ⟨w.heap.size, 0, none⟩ = some (.slice A0 n c0) from (World.cell?_of_block (a := ⟨w.heap.size, 0, none⟩) (hgB1.block w.heap.size hxlA (by intro e; injection e with e; have := (HXC.out _ HB4.out).2.2; omega))).trans hxcA)
  have HBW := Lib.hid (show w.heap.size < wB.heap.size from Nat.lt_of_lt_of_le hxlA hgB1.size)
  clear HPA HPB HTA HTB HB1 HB2 HB3 HB4 HMA5 HMB5 hmA1 hmB1 hMB1 hMA2 hgA1 hgB1 HFS hltA hltB hmA hmB hz3 hz4 hneW hxa hxb hs1 hc1 hne hxlA hL0 hL1 hL2 hL3 hL4
  go_upto_region 3 with (fail)
  go_region
  -- ROUND
  have hxcB : wB.cell? ⟨w.heap.size, 0, none⟩ = some (.slice A0 n c0) := HCB.out
  have HXB := Lib.hid (fun (W : World) (hw : Below wB.heap.size wB W) => show W.cell? ⟨w.heap.size, 0, none⟩ = some (.slice A0 n c0) from (hw.cell (p := ⟨w.heap.size, 0, none⟩) (by dsimp only; have := HBW.out; omega)).trans hxcB)
  have HMW := Lib.hid (fun (W : World) (hw : Below wB.heap.size wB W) => show MapL W mA (Value.int .i64) (up (toM n (prX base a)) (n : Int) (.int .i64 (p : Nat))) ∧ MapL W mB (Value.int .i64) (up (toM n (prX base b)) (n : Int) (.int .i64 (q : Nat))) from ⟨HM1.out.below hw HM1.out.lt, HM2.out.below hw HM2.out.lt⟩)
  have HLK1 := Lib.hid (fun (x : Nat) (hx : x ≤ n) => show lk (up (toM n (prX base a)) (n : Int) (.int .i64 (p : Nat))) (x : Int) = (if x = base.length then some a.length else faS base a x).map fun y => Value.int .i64 (y : Nat) from by
    rw [lk_up]
    by_cases e : x = n
    · subst e
      rw [if_pos rfl, if_pos HN.out.symm, HP.out]
      rfl
    · rw [if_neg (by omega), if_neg (by rw [HN.out]; exact e)]
      have := toM_lk n (prX base a) (prX_up base a) (fun r hr => by have := prX_in hr; rw [← HN.out]; exact this.1) x (by omega) (prX base a).length (Nat.le_refl _)
      rw [List.take_length] at this
      exact this)
  have HLK2 := Lib.hid (fun (x : Nat) (hx : x ≤ n) => show lk (up (toM n (prX base b)) (n : Int) (.int .i64 (q : Nat))) (x : Int) = (if x = base.length then some b.length else faS base b x).map fun y => Value.int .i64 (y : Nat) from by
    rw [lk_up]
    by_cases e : x = n
    · subst e
      rw [if_pos rfl, if_pos HN.out.symm, HQ.out]
      rfl
    · rw [if_neg (by omega), if_neg (by rw [HN.out]; exact e)]
      have := toM_lk n (prX base b) (prX_up base b) (fun r hr => by have := prX_in hr; rw [← HN.out]; exact this.1) x (by omega) (prX base b).length (Nat.le_refl _)
      rw [List.take_length] at this
      exact this)
  have E0 := Lib.hid (show B2 strR prR 9 46 wB [] (.slice none 0 0) [] (.slice none 0 0) wB from B2.start wB)
  obtain ⟨i0, hi0, hz0, hz1, hz2⟩ := info_parts (show (Tryz.prog.info? 9).map (fun i => (i.zero, i.size, i.bytes)) = some (some (.string ⟨#[]⟩), 1, 16) by kernel_rfl)
  obtain ⟨i2, hi2, hy0, hy1, hy2⟩ := info_parts (show (Tryz.prog.info? 46).map (fun i => (i.zero, i.size, i.bytes)) = some (some (.agg #[.int .i64 0, .int .i64 0]), 2, 16) by kernel_rfl)
  go_upto_region 8 with (fail)
  go_loopw [11, 12, 13, 14, 15, 16] (fun s11 s12 s13 s14 s15 s16 wr => ∃ (x : Nat) (S : MgS), x ≤ n + 1 ∧ s16 = .int .i64 x ∧ s13 = .int .i64 S.i ∧ s14 = .int .i64 S.j ∧ s15 = .int .i64 S.k ∧ Hid (S = mgN base a b (faS base a) (faS base b) x) ∧ Hid (B2 strR prR 9 46 wB S.out s11 S.cl s12 wr)) (fun _ _ _ _ _ s16 _ => n + 1 - (intOf s16).toNat)
  case atStart => exact ⟨0, mgZ, Nat.zero_le _, rfl, rfl, rfl, rfl, rfl, E0⟩
  case round =>
    clear E0
    obtain ⟨x, S, hx, rfl, rfl, rfl, rfl, HST, HG⟩ := hrel
    have xr := HXB.out wr HG.out.bel
    by_cases hlt : x < n + 1
    · have HOK := Lib.hid (by
        have q := mgN_ok (base := base) (a := a) (b := b) (faS_ris base a) (faS_ris base b) x (by rw [HN.out]; omega)
        rw [← HST.out] at q
        exact q)
      have HSTEP := Lib.hid (show mgN base a b (faS base a) (faS base b) (x + 1) = mgStep base a b (faS base a) (faS base b) S x by rw [mgN_succ, ← HST.out])
      have hoa0 : (if x = base.length then some a.length else faS base a x) = (if x = base.length then some a.length else faS base a x) := rfl
      have HLA0 := HLK1.out x (by omega)
      have HLB0 := HLK2.out x (by omega)
      have hya : ∀ y, (if x = base.length then some a.length else faS base a x) = some y → S.j ≤ y ∧ y ≤ p := by
        intro y hy
        by_cases hxn : x = base.length
        · rw [if_pos hxn] at hy
          injection hy with hy
          have := HOK.out.ja (Nat.le_of_eq hxn)
          rw [← hy]
          exact ⟨this, Nat.le_of_eq HP.out⟩
        · rw [if_neg hxn] at hy
          have h1 := (faS_ris base a).lt x y hy
          rw [HP.out] at h1
          exact ⟨HOK.out.j x y (Nat.le_refl _) hy, by omega⟩
      have hyb : ∀ y, (if x = base.length then some b.length else faS base b x) = some y → S.k ≤ y ∧ y ≤ q := by
        intro y hy
        by_cases hxn : x = base.length
        · rw [if_pos hxn] at hy
          injection hy with hy
          have := HOK.out.kb (Nat.le_of_eq hxn)
          rw [← hy]
          exact ⟨this, Nat.le_of_eq HQ.out⟩
        · rw [if_neg hxn] at hy
          have h1 := (faS_ris base b).lt x y hy
          rw [HQ.out] at h1
          exact ⟨HOK.out.k x y (Nat.le_refl _) hy, by omega⟩
      have HYA := Lib.hid hya
      have HYB := Lib.hid hyb
      clear hya hyb hoa0
      cases hfa : (if x = base.length then some a.length else faS base a x) with
      | none =>
        rw [hfa] at HLA0
        have HNX := Lib.hid (show S = mgN base a b (faS base a) (faS base b) (x + 1) by rw [HSTEP.out]; unfold mgStep; rw [hfa])
        have HLA := Lib.hid HLA0
        cases hfb : (if x = base.length then some b.length else faS base b x) with
        | none =>
          rw [hfb] at HLB0
          have HLB := Lib.hid HLB0
          clear hfa hfb HLA0 HLB0
          go_wp2_with (first | (at_lookup; first | (refine wpList_lookup_plain _ rfl _ _ 73 true rfl 3 3 K Tryz.underlying73 (.int .i64 0) (Tryz.zeroValue3 _) mA _ rfl (HMW.out _ HG.out.bel).1 (x : Int) rfl ?_; rw [HLA.out]; simp only [if_true, Option.map_none, Option.map_some, Option.getD_none, Option.getD_some, Option.isSome_none, Option.isSome_some]) | (refine wpList_lookup_plain _ rfl _ _ 73 true rfl 3 3 K Tryz.underlying73 (.int .i64 0) (Tryz.zeroValue3 _) mB _ rfl (HMW.out _ HG.out.bel).2 (x : Int) rfl ?_; rw [HLB.out]; simp only [if_true, Option.map_none, Option.map_some, Option.getD_none, Option.getD_some, Option.isSome_none, Option.isSome_some])) | fail)
          go_roundw
          case rel => exact ⟨x + 1, S, by omega, intNum, rfl, rfl, rfl, HNX, HG⟩
          case measure => simp [intOf]; omega
        | some z =>
          rw [hfb] at HLB0
          have HLB := Lib.hid HLB0
          clear hfa hfb HLA0 HLB0
          go_wp2_with (first | (at_lookup; first | (refine wpList_lookup_plain _ rfl _ _ 73 true rfl 3 3 K Tryz.underlying73 (.int .i64 0) (Tryz.zeroValue3 _) mA _ rfl (HMW.out _ HG.out.bel).1 (x : Int) rfl ?_; rw [HLA.out]; simp only [if_true, Option.map_none, Option.map_some, Option.getD_none, Option.getD_some, Option.isSome_none, Option.isSome_some]) | (refine wpList_lookup_plain _ rfl _ _ 73 true rfl 3 3 K Tryz.underlying73 (.int .i64 0) (Tryz.zeroValue3 _) mB _ rfl (HMW.out _ HG.out.bel).2 (x : Int) rfl ?_; rw [HLB.out]; simp only [if_true, Option.map_none, Option.map_some, Option.getD_none, Option.getD_some, Option.isSome_none, Option.isSome_some])) | fail)
          go_roundw
          case rel => exact ⟨x + 1, S, by omega, intNum, rfl, rfl, rfl, HNX, HG⟩
          case measure => simp [intOf]; omega
      | some y =>
        rw [hfa] at HLA0
        have HLA := Lib.hid HLA0
        cases hfb : (if x = base.length then some b.length else faS base b x) with
        | none =>
          rw [hfb] at HLB0
          have HLB := Lib.hid HLB0
          have HNX := Lib.hid (show S = mgN base a b (faS base a) (faS base b) (x + 1) by rw [HSTEP.out]; unfold mgStep; rw [hfa, hfb])
          clear hfa hfb HLA0 HLB0
          go_wp2_with (first | (at_lookup; first | (refine wpList_lookup_plain _ rfl _ _ 73 true rfl 3 3 K Tryz.underlying73 (.int .i64 0) (Tryz.zeroValue3 _) mA _ rfl (HMW.out _ HG.out.bel).1 (x : Int) rfl ?_; rw [HLA.out]; simp only [if_true, Option.map_none, Option.map_some, Option.getD_none, Option.getD_some, Option.isSome_none, Option.isSome_some]) | (refine wpList_lookup_plain _ rfl _ _ 73 true rfl 3 3 K Tryz.underlying73 (.int .i64 0) (Tryz.zeroValue3 _) mB _ rfl (HMW.out _ HG.out.bel).2 (x : Int) rfl ?_; rw [HLB.out]; simp only [if_true, Option.map_none, Option.map_some, Option.getD_none, Option.getD_some, Option.isSome_none, Option.isSome_some])) | fail)
          go_roundw
          case rel => exact ⟨x + 1, S, by omega, intNum, rfl, rfl, rfl, HNX, HG⟩
          case measure => simp [intOf]; omega
        | some z =>
          rw [hfb] at HLB0
          have HLB := Lib.hid HLB0
          have HNX := Lib.hid (show mgN base a b (faS base a) (faS base b) (x + 1) = ⟨x + 1, y + 1, z + 1, S.out ++ mgAdd (cutL base S.i x) (cutL a S.j y) (cutL b S.k z) ++ (if h : x < base.length then [base[x]] else []), S.cl ++ if mgClash (cutL base S.i x) (cutL a S.j y) (cutL b S.k z) = true then [(S.i, x - S.i)] else []⟩ by rw [HSTEP.out]; unfold mgStep; rw [hfa, hfb])
          have hjy := (HYA.out y hfa).1
          have hyp := (HYA.out y hfa).2
          have hkz := (HYB.out z hfb).1
          have hzq := (HYB.out z hfb).2
          clear hfa hfb HLA0 HLB0 HSTEP HST
          have hi := HOK.out.i
          have ho := HOK.out.out
          have hcl := HOK.out.cl
          have hja := hjy
          have hsb0 : S.i ≤ c0 := by omega
          have hsb1 : x ≤ c0 := by omega
          have hsb2 : y ≤ c1 := by omega
          have hsb3 : z ≤ c2 := by omega
          have hxle : x ≤ n := by omega
          have hlo : (cutL base S.i x).length = x - S.i := cutL_len (by rw [HN.out]; omega)
          have hla : (cutL a S.j y).length = y - S.j := cutL_len (by rw [HP.out]; exact hyp)
          have hlb : (cutL b S.k z).length = z - S.k := cutL_len (by rw [HQ.out]; exact hzq)
          go_upto_region 13 with (first | (at_lookup; first | (refine wpList_lookup_plain _ rfl _ _ 73 true rfl 3 3 K Tryz.underlying73 (.int .i64 0) (Tryz.zeroValue3 _) mA _ rfl (HMW.out _ HG.out.bel).1 (x : Int) rfl ?_; rw [HLA.out]; simp only [if_true, Option.map_none, Option.map_some, Option.getD_none, Option.getD_some, Option.isSome_none, Option.isSome_some]) | (refine wpList_lookup_plain _ rfl _ _ 73 true rfl 3 3 K Tryz.underlying73 (.int .i64 0) (Tryz.zeroValue3 _) mB _ rfl (HMW.out _ HG.out.bel).2 (x : Int) rfl ?_; rw [HLB.out]; simp only [if_true, Option.map_none, Option.map_some, Option.getD_none, Option.getD_some, Option.isSome_none, Option.isSome_some])) | fail)
          go_region
          obtain ⟨B0, hB0⟩ : ∃ B0, (if c0 = S.i then A0 else Option.map (fun x => x.add S.i) A0) = B0 := ⟨_, rfl⟩
          obtain ⟨B1, hB1⟩ : ∃ B1, (if c1 = S.j then A1 else Option.map (fun x => x.add S.j) A1) = B1 := ⟨_, rfl⟩
          obtain ⟨B2', hB2⟩ : ∃ B2, (if c2 = S.k then A2 else Option.map (fun x => x.add S.k) A2) = B2 := ⟨_, rfl⟩
          have HSL := Lib.hid (fun (W : World) (hw : Below wB.heap.size wB W) => show Sli strR W F (cutL base S.i x) (.slice B0 (x - S.i) (c0 - S.i)) ∧ Sli strR W F (cutL a S.j y) (.slice B1 (y - S.j) (c1 - S.j)) ∧ Sli strR W F (cutL b S.k z) (.slice B2' (z - S.k) (c2 - S.k)) from by
            obtain ⟨s0, s1, s2⟩ := HS.out W (HBB.out.trans (hw.mono HBB.out.size))
            rw [← hB0, ← hB1, ← hB2]
            exact ⟨cutSli2 s0 hi (by rw [HN.out]; exact hxle), cutSli2 s1 hjy (by rw [HP.out]; exact hyp), cutSli2 s2 hkz (by rw [HQ.out]; exact hzq)⟩)
          have HEQ := Lib.hid (fun (l1 l2 : List ByteArray) (v1 v2 : Value) (W : World) (hw : Below wB.heap.size wB W) (h1 : Sli strR W F l1 v1) (h2 : Sli strR W F l2 v2) => eqStr_c l1 l2 v1 v2 F W h1 h2 (fun q hq => by have := HF.out q hq; have := HBB.out.size; have := hw.size; omega))
          rw [hB0, hB1, hB2]
          have hxi : ((x - S.i : Nat) : Int) = (x : Int) - S.i := by omega
          have HG2 := Lib.hid HG.out.drew
          clear hB0 hB1 hB2 HG
          have HG := HG2
          clear HG2
          generalize wr.drew = wd at *
          by_cases hxn : x < n
          · have hx1 : (x : Int) < n := by omega
            have HTX0 := Lib.hid (fun (W : World) (hw : Below wB.heap.size wB W) => (HS.out W (HBB.out.trans (hw.mono HBB.out.size))).1.txt x (by rw [HN.out]; exact hxn))
            obtain ⟨o0, f0, eA, _, _⟩ := HTX0.out wB (Below.refl _ _)
            subst eA
            obtain ⟨bx, hbx⟩ : ∃ bx, base[x]'(by rw [HN.out]; exact hxn) = bx := ⟨_, rfl⟩
            have HBX := Lib.hid hbx
            have HTX := Lib.hid (fun (W : World) (hw : Below wB.heap.size wB W) => show W.cell? ⟨o0, f0 + x, none⟩ = some (.string bx) from by
              obtain ⟨_, _, e1, _, e2⟩ := HTX0.out W hw
              cases e1
              rw [hbx] at e2
              exact e2)
            clear HTX0 hbx
            by_cases eq1 : cutL a S.j y = cutL base S.i x
            · have HE1 := HEQ.out (cutL a S.j y) (cutL base S.i x) _ _ wd HG.out.bel (HSL.out wd HG.out.bel).2.1 (HSL.out wd HG.out.bel).1
              rw [decide_eq_true eq1] at HE1
              have HE1 := Lib.hid HE1
              go_wp2_with fail
              refine HE1.out.mono ?_
              rintro e w5 ⟨rfl, hb1⟩
              have G5 := Lib.hid (HG.out.below hb1)
              clear hb1 HE1 HG
              go_wp2_with (at_builtin; first | ((refine wpList_appB2 rfl _ _ rfl i0 hi0 hz0 hz1 hz2 wB w5 u11 u12 S.out (cutL b S.k z) S.cl rfl G5.out B2' (z - S.k) (c2 - S.k) rfl (HSL.out w5 G5.out.bel).2.2 hlb (by omega) ?_); intro v6 w6 hG6; have G6 := Lib.hid hG6; have e6 := HTX.out w6 G6.out.bel; have x6 := HXB.out w6 G6.out.bel) | ((refine wpList_pushB (R := strR) rfl _ _ _ rfl wB.heap.size wB.heap.size 9 i0 _ 16 Tryz.underlying26 hi0 hz0 (by assumption) (by assumption) rfl (by decide) _ v6 (S.out ++ cutL b S.k z) rfl (G6.out.o1.alloc _) bx _ rfl (oneC rfl) w6.heap.size _ _ (heap_alloc_new w6 _) rfl (by simp only [List.length_append, maxLen]; omega) (by simp only [List.length_append]; omega) (by have := G6.out.bel.size; simp; omega) ?_); intro g7 cap7 w7 hown7 hg7 hat7 hlt7; have G7 := Lib.hid ((G6.out.alloc (.cells #[.string bx] 9)).more1 hown7 hg7 rfl hat7)))
              rw [List.length_append, hlb] at G7
              have HN2 := Lib.hid (show (⟨x + 1, y + 1, z + 1, S.out ++ cutL b S.k z ++ [bx], S.cl⟩ : MgS) = mgN base a b (faS base a) (faS base b) (x + 1) from by
                rw [HNX.out, dif_pos (by rw [HN.out]; exact hxn), HBX.out, show mgAdd (cutL base S.i x) (cutL a S.j y) (cutL b S.k z) = cutL b S.k z from by unfold mgAdd; rw [if_pos eq1], show mgClash (cutL base S.i x) (cutL a S.j y) (cutL b S.k z) = false from by unfold mgClash; rw [decide_eq_true eq1]; rfl]
                simp)
              try go_wp2
              go_roundw
              case rel => exact ⟨x + 1, ⟨x + 1, y + 1, z + 1, S.out ++ cutL b S.k z ++ [bx], S.cl⟩, by omega, intNum, intNum, intNum, intNum, HN2, G7⟩
              case measure => simp [intOf]; omega
            · have HE1 := HEQ.out (cutL a S.j y) (cutL base S.i x) _ _ wd HG.out.bel (HSL.out wd HG.out.bel).2.1 (HSL.out wd HG.out.bel).1
              rw [decide_eq_false eq1] at HE1
              have HE1 := Lib.hid HE1
              go_wp2_with fail
              refine HE1.out.mono ?_
              rintro e w5 ⟨rfl, hb1⟩
              have G5 := Lib.hid (HG.out.below hb1)
              clear hb1 HE1 HG
              by_cases eq2 : cutL b S.k z = cutL base S.i x
              · have HE2 := HEQ.out (cutL b S.k z) (cutL base S.i x) _ _ w5 G5.out.bel (HSL.out w5 G5.out.bel).2.2 (HSL.out w5 G5.out.bel).1
                rw [decide_eq_true eq2] at HE2
                have HE2 := Lib.hid HE2
                go_wp2_with fail
                refine HE2.out.mono ?_
                rintro e w8 ⟨rfl, hb2⟩
                have G8 := Lib.hid (G5.out.below hb2)
                clear hb2 HE2 G5
                go_wp2_with (at_builtin; first | ((refine wpList_appB2 rfl _ _ rfl i0 hi0 hz0 hz1 hz2 wB w8 u11 u12 S.out (cutL a S.j y) S.cl rfl G8.out B1 (y - S.j) (c1 - S.j) rfl (HSL.out w8 G8.out.bel).2.1 hla (by omega) ?_); intro v6 w6 hG6; have G6 := Lib.hid hG6; have e6 := HTX.out w6 G6.out.bel; have x6 := HXB.out w6 G6.out.bel) | ((refine wpList_pushB (R := strR) rfl _ _ _ rfl wB.heap.size wB.heap.size 9 i0 _ 16 Tryz.underlying26 hi0 hz0 (by assumption) (by assumption) rfl (by decide) _ v6 (S.out ++ cutL a S.j y) rfl (G6.out.o1.alloc _) bx _ rfl (oneC rfl) w6.heap.size _ _ (heap_alloc_new w6 _) rfl (by simp only [List.length_append, maxLen]; omega) (by simp only [List.length_append]; omega) (by have := G6.out.bel.size; simp; omega) ?_); intro g7 cap7 w7 hown7 hg7 hat7 hlt7; have G7 := Lib.hid ((G6.out.alloc (.cells #[.string bx] 9)).more1 hown7 hg7 rfl hat7)))
                rw [List.length_append, hla] at G7
                have HN2 := Lib.hid (show (⟨x + 1, y + 1, z + 1, S.out ++ cutL a S.j y ++ [bx], S.cl⟩ : MgS) = mgN base a b (faS base a) (faS base b) (x + 1) from by
                  rw [HNX.out, dif_pos (by rw [HN.out]; exact hxn), HBX.out, show mgAdd (cutL base S.i x) (cutL a S.j y) (cutL b S.k z) = cutL a S.j y from by unfold mgAdd; rw [if_neg eq1, if_pos (.inl eq2)], show mgClash (cutL base S.i x) (cutL a S.j y) (cutL b S.k z) = false from by unfold mgClash; rw [decide_eq_true eq2]; simp]
                  simp)
                try go_wp2
                go_roundw
                case rel => exact ⟨x + 1, ⟨x + 1, y + 1, z + 1, S.out ++ cutL a S.j y ++ [bx], S.cl⟩, by omega, intNum, intNum, intNum, intNum, HN2, G7⟩
                case measure => simp [intOf]; omega
              · have HE2 := HEQ.out (cutL b S.k z) (cutL base S.i x) _ _ w5 G5.out.bel (HSL.out w5 G5.out.bel).2.2 (HSL.out w5 G5.out.bel).1
                rw [decide_eq_false eq2] at HE2
                have HE2 := Lib.hid HE2
                go_wp2_with fail
                refine HE2.out.mono ?_
                rintro e w8 ⟨rfl, hb2⟩
                have G8 := Lib.hid (G5.out.below hb2)
                clear hb2 HE2 G5
                by_cases eq3 : cutL b S.k z = cutL a S.j y
                · have HE3 := HEQ.out (cutL b S.k z) (cutL a S.j y) _ _ w8 G8.out.bel (HSL.out w8 G8.out.bel).2.2 (HSL.out w8 G8.out.bel).2.1
                  rw [decide_eq_true eq3] at HE3
                  have HE3 := Lib.hid HE3
                  go_wp2_with fail
                  refine HE3.out.mono ?_
                  rintro e w9 ⟨rfl, hb3⟩
                  have G9 := Lib.hid (G8.out.below hb3)
                  clear hb3 HE3 G8
                  have EQ3 := Lib.hid eq3.symm
                  clear eq3
                  go_wp2_with (at_builtin; first | ((refine wpList_appB2 rfl _ _ rfl i0 hi0 hz0 hz1 hz2 wB w9 u11 u12 S.out (cutL a S.j y) S.cl rfl G9.out B1 (y - S.j) (c1 - S.j) rfl (HSL.out w9 G9.out.bel).2.1 hla (by omega) ?_); intro v6 w6 hG6; have G6 := Lib.hid hG6; have e6 := HTX.out w6 G6.out.bel; have x6 := HXB.out w6 G6.out.bel) | ((refine wpList_pushB (R := strR) rfl _ _ _ rfl wB.heap.size wB.heap.size 9 i0 _ 16 Tryz.underlying26 hi0 hz0 (by assumption) (by assumption) rfl (by decide) _ v6 (S.out ++ cutL a S.j y) rfl (G6.out.o1.alloc _) bx _ rfl (oneC rfl) w6.heap.size _ _ (heap_alloc_new w6 _) rfl (by simp only [List.length_append, maxLen]; omega) (by simp only [List.length_append]; omega) (by have := G6.out.bel.size; simp; omega) ?_); intro g7 cap7 w7 hown7 hg7 hat7 hlt7; have G7 := Lib.hid ((G6.out.alloc (.cells #[.string bx] 9)).more1 hown7 hg7 rfl hat7)))
                  rw [List.length_append, hla] at G7
                  have HN2 := Lib.hid (show (⟨x + 1, y + 1, z + 1, S.out ++ cutL a S.j y ++ [bx], S.cl⟩ : MgS) = mgN base a b (faS base a) (faS base b) (x + 1) from by
                    rw [HNX.out, dif_pos (by rw [HN.out]; exact hxn), HBX.out, show mgAdd (cutL base S.i x) (cutL a S.j y) (cutL b S.k z) = cutL a S.j y from by unfold mgAdd; rw [if_neg eq1, if_pos (.inr EQ3.out)], show mgClash (cutL base S.i x) (cutL a S.j y) (cutL b S.k z) = false from by unfold mgClash; rw [decide_eq_true EQ3.out]; simp]
                    simp)
                  try go_wp2
                  go_roundw
                  case rel => exact ⟨x + 1, ⟨x + 1, y + 1, z + 1, S.out ++ cutL a S.j y ++ [bx], S.cl⟩, by omega, intNum, intNum, intNum, intNum, HN2, G7⟩
                  case measure => simp [intOf]; omega
                · have HE3 := HEQ.out (cutL b S.k z) (cutL a S.j y) _ _ w8 G8.out.bel (HSL.out w8 G8.out.bel).2.2 (HSL.out w8 G8.out.bel).2.1
                  rw [decide_eq_false eq3] at HE3
                  have HE3 := Lib.hid HE3
                  go_wp2_with fail
                  refine HE3.out.mono ?_
                  rintro e w9 ⟨rfl, hb3⟩
                  have G9 := Lib.hid (G8.out.below hb3)
                  clear hb3 HE3 G8
                  go_wp2_with (at_builtin; first | ((refine wpList_appB2 rfl _ _ rfl i0 hi0 hz0 hz1 hz2 wB w9 u11 u12 S.out (cutL base S.i x) S.cl rfl G9.out B0 (x - S.i) (c0 - S.i) rfl (HSL.out w9 G9.out.bel).1 hlo (by omega) ?_); intro v6 wA hGA; have GA := Lib.hid hGA) | ((refine wpList_pushB (R := prR) rfl _ _ _ rfl wB.heap.size wB.heap.size 46 i2 _ 16 Tryz.underlying39 hi2 hy0 (by assumption) (by assumption) rfl (by decide) _ u12 S.cl rfl (GA.out.o2.alloc _) (S.i, x - S.i) [.int .i64 (S.i : Nat), .int .i64 ((x : Int) - S.i)] (by show _ = prC (S.i, x - S.i); unfold prC; rw [hxi]) (by intro u hu; simp at hu; rcases hu with rfl | rfl <;> rfl) wA.heap.size _ _ (heap_alloc_new wA _) rfl (by unfold maxLen; omega) (by omega) (by have := GA.out.bel.size; simp; omega) ?_); intro g9 cap9 w6 hown9 hg9 hat9 hlt9; have G6 := Lib.hid ((GA.out.alloc (.cells #[.int .i64 (S.i : Nat), .int .i64 ((x : Int) - S.i)] 46)).more2 hown9 hg9 rfl hat9); have e6 := HTX.out w6 G6.out.bel; have x6 := HXB.out w6 G6.out.bel) | ((refine wpList_pushB (R := strR) rfl _ _ _ rfl wB.heap.size wB.heap.size 9 i0 _ 16 Tryz.underlying26 hi0 hz0 (by assumption) (by assumption) rfl (by decide) _ v6 (S.out ++ cutL base S.i x) rfl (G6.out.o1.alloc _) bx _ rfl (oneC rfl) w6.heap.size _ _ (heap_alloc_new w6 _) rfl (by simp only [List.length_append, maxLen]; omega) (by simp only [List.length_append]; omega) (by have := G6.out.bel.size; simp; omega) ?_); intro g7 cap7 w7 hown7 hg7 hat7 hlt7; have G7 := Lib.hid ((G6.out.alloc (.cells #[.string bx] 9)).more1 hown7 hg7 rfl hat7)))
                  rw [List.length_append, hlo] at G7
                  have HN2 := Lib.hid (show (⟨x + 1, y + 1, z + 1, S.out ++ cutL base S.i x ++ [bx], S.cl ++ [(S.i, x - S.i)]⟩ : MgS) = mgN base a b (faS base a) (faS base b) (x + 1) from by
                    rw [HNX.out, dif_pos (by rw [HN.out]; exact hxn), HBX.out, show mgAdd (cutL base S.i x) (cutL a S.j y) (cutL b S.k z) = cutL base S.i x from by unfold mgAdd; rw [if_neg eq1, if_neg (fun h => h.elim eq2 (fun h => eq3 h.symm))], show mgClash (cutL base S.i x) (cutL a S.j y) (cutL b S.k z) = true from by unfold mgClash; rw [decide_eq_false eq1, decide_eq_false eq2, decide_eq_false (fun h => eq3 h.symm)]; rfl]
                    simp)
                  try go_wp2
                  go_roundw
                  case rel => exact ⟨x + 1, ⟨x + 1, y + 1, z + 1, S.out ++ cutL base S.i x ++ [bx], S.cl ++ [(S.i, x - S.i)]⟩, by omega, intNum, intNum, intNum, intNum, HN2, G7⟩
                  case measure => simp [intOf]; omega
          · have hx1 : ¬ (x : Int) < n := by omega
            by_cases eq1 : cutL a S.j y = cutL base S.i x
            · have HE1 := HEQ.out (cutL a S.j y) (cutL base S.i x) _ _ wd HG.out.bel (HSL.out wd HG.out.bel).2.1 (HSL.out wd HG.out.bel).1
              rw [decide_eq_true eq1] at HE1
              have HE1 := Lib.hid HE1
              go_wp2_with fail
              refine HE1.out.mono ?_
              rintro e w5 ⟨rfl, hb1⟩
              have G5 := Lib.hid (HG.out.below hb1)
              clear hb1 HE1 HG
              go_wp2_with (at_builtin; first | ((refine wpList_appB2 rfl _ _ rfl i0 hi0 hz0 hz1 hz2 wB w5 u11 u12 S.out (cutL b S.k z) S.cl rfl G5.out B2' (z - S.k) (c2 - S.k) rfl (HSL.out w5 G5.out.bel).2.2 hlb (by omega) ?_); intro v6 w6 hG6; have G6 := Lib.hid hG6; have x6 := HXB.out w6 G6.out.bel))
              have HN2 := Lib.hid (show (⟨x + 1, y + 1, z + 1, S.out ++ cutL b S.k z, S.cl⟩ : MgS) = mgN base a b (faS base a) (faS base b) (x + 1) from by
                rw [HNX.out, dif_neg (by rw [HN.out]; omega), show mgAdd (cutL base S.i x) (cutL a S.j y) (cutL b S.k z) = cutL b S.k z from by unfold mgAdd; rw [if_pos eq1], show mgClash (cutL base S.i x) (cutL a S.j y) (cutL b S.k z) = false from by unfold mgClash; rw [decide_eq_true eq1]; rfl]
                simp)
              try go_wp2
              go_roundw
              case rel => exact ⟨x + 1, ⟨x + 1, y + 1, z + 1, S.out ++ cutL b S.k z, S.cl⟩, by omega, intNum, intNum, intNum, intNum, HN2, G6⟩
              case measure => simp [intOf]; omega
            · have HE1 := HEQ.out (cutL a S.j y) (cutL base S.i x) _ _ wd HG.out.bel (HSL.out wd HG.out.bel).2.1 (HSL.out wd HG.out.bel).1
              rw [decide_eq_false eq1] at HE1
              have HE1 := Lib.hid HE1
              go_wp2_with fail
              refine HE1.out.mono ?_
              rintro e w5 ⟨rfl, hb1⟩
              have G5 := Lib.hid (HG.out.below hb1)
              clear hb1 HE1 HG
              by_cases eq2 : cutL b S.k z = cutL base S.i x
              · have HE2 := HEQ.out (cutL b S.k z) (cutL base S.i x) _ _ w5 G5.out.bel (HSL.out w5 G5.out.bel).2.2 (HSL.out w5 G5.out.bel).1
                rw [decide_eq_true eq2] at HE2
                have HE2 := Lib.hid HE2
                go_wp2_with fail
                refine HE2.out.mono ?_
                rintro e w8 ⟨rfl, hb2⟩
                have G8 := Lib.hid (G5.out.below hb2)
                clear hb2 HE2 G5
                go_wp2_with (at_builtin; first | ((refine wpList_appB2 rfl _ _ rfl i0 hi0 hz0 hz1 hz2 wB w8 u11 u12 S.out (cutL a S.j y) S.cl rfl G8.out B1 (y - S.j) (c1 - S.j) rfl (HSL.out w8 G8.out.bel).2.1 hla (by omega) ?_); intro v6 w6 hG6; have G6 := Lib.hid hG6; have x6 := HXB.out w6 G6.out.bel))
                have HN2 := Lib.hid (show (⟨x + 1, y + 1, z + 1, S.out ++ cutL a S.j y, S.cl⟩ : MgS) = mgN base a b (faS base a) (faS base b) (x + 1) from by
                  rw [HNX.out, dif_neg (by rw [HN.out]; omega), show mgAdd (cutL base S.i x) (cutL a S.j y) (cutL b S.k z) = cutL a S.j y from by unfold mgAdd; rw [if_neg eq1, if_pos (.inl eq2)], show mgClash (cutL base S.i x) (cutL a S.j y) (cutL b S.k z) = false from by unfold mgClash; rw [decide_eq_true eq2]; simp]
                  simp)
                try go_wp2
                go_roundw
                case rel => exact ⟨x + 1, ⟨x + 1, y + 1, z + 1, S.out ++ cutL a S.j y, S.cl⟩, by omega, intNum, intNum, intNum, intNum, HN2, G6⟩
                case measure => simp [intOf]; omega
              · have HE2 := HEQ.out (cutL b S.k z) (cutL base S.i x) _ _ w5 G5.out.bel (HSL.out w5 G5.out.bel).2.2 (HSL.out w5 G5.out.bel).1
                rw [decide_eq_false eq2] at HE2
                have HE2 := Lib.hid HE2
                go_wp2_with fail
                refine HE2.out.mono ?_
                rintro e w8 ⟨rfl, hb2⟩
                have G8 := Lib.hid (G5.out.below hb2)
                clear hb2 HE2 G5
                by_cases eq3 : cutL b S.k z = cutL a S.j y
                · have HE3 := HEQ.out (cutL b S.k z) (cutL a S.j y) _ _ w8 G8.out.bel (HSL.out w8 G8.out.bel).2.2 (HSL.out w8 G8.out.bel).2.1
                  rw [decide_eq_true eq3] at HE3
                  have HE3 := Lib.hid HE3
                  go_wp2_with fail
                  refine HE3.out.mono ?_
                  rintro e w9 ⟨rfl, hb3⟩
                  have G9 := Lib.hid (G8.out.below hb3)
                  clear hb3 HE3 G8
                  have EQ3 := Lib.hid eq3.symm
                  clear eq3
                  go_wp2_with (at_builtin; first | ((refine wpList_appB2 rfl _ _ rfl i0 hi0 hz0 hz1 hz2 wB w9 u11 u12 S.out (cutL a S.j y) S.cl rfl G9.out B1 (y - S.j) (c1 - S.j) rfl (HSL.out w9 G9.out.bel).2.1 hla (by omega) ?_); intro v6 w6 hG6; have G6 := Lib.hid hG6; have x6 := HXB.out w6 G6.out.bel))
                  have HN2 := Lib.hid (show (⟨x + 1, y + 1, z + 1, S.out ++ cutL a S.j y, S.cl⟩ : MgS) = mgN base a b (faS base a) (faS base b) (x + 1) from by
                    rw [HNX.out, dif_neg (by rw [HN.out]; omega), show mgAdd (cutL base S.i x) (cutL a S.j y) (cutL b S.k z) = cutL a S.j y from by unfold mgAdd; rw [if_neg eq1, if_pos (.inr EQ3.out)], show mgClash (cutL base S.i x) (cutL a S.j y) (cutL b S.k z) = false from by unfold mgClash; rw [decide_eq_true EQ3.out]; simp]
                    simp)
                  try go_wp2
                  go_roundw
                  case rel => exact ⟨x + 1, ⟨x + 1, y + 1, z + 1, S.out ++ cutL a S.j y, S.cl⟩, by omega, intNum, intNum, intNum, intNum, HN2, G6⟩
                  case measure => simp [intOf]; omega
                · have HE3 := HEQ.out (cutL b S.k z) (cutL a S.j y) _ _ w8 G8.out.bel (HSL.out w8 G8.out.bel).2.2 (HSL.out w8 G8.out.bel).2.1
                  rw [decide_eq_false eq3] at HE3
                  have HE3 := Lib.hid HE3
                  go_wp2_with fail
                  refine HE3.out.mono ?_
                  rintro e w9 ⟨rfl, hb3⟩
                  have G9 := Lib.hid (G8.out.below hb3)
                  clear hb3 HE3 G8
                  go_wp2_with (at_builtin; first | ((refine wpList_appB2 rfl _ _ rfl i0 hi0 hz0 hz1 hz2 wB w9 u11 u12 S.out (cutL base S.i x) S.cl rfl G9.out B0 (x - S.i) (c0 - S.i) rfl (HSL.out w9 G9.out.bel).1 hlo (by omega) ?_); intro v6 wA hGA; have GA := Lib.hid hGA) | ((refine wpList_pushB (R := prR) rfl _ _ _ rfl wB.heap.size wB.heap.size 46 i2 _ 16 Tryz.underlying39 hi2 hy0 (by assumption) (by assumption) rfl (by decide) _ u12 S.cl rfl (GA.out.o2.alloc _) (S.i, x - S.i) [.int .i64 (S.i : Nat), .int .i64 ((x : Int) - S.i)] (by show _ = prC (S.i, x - S.i); unfold prC; rw [hxi]) (by intro u hu; simp at hu; rcases hu with rfl | rfl <;> rfl) wA.heap.size _ _ (heap_alloc_new wA _) rfl (by unfold maxLen; omega) (by omega) (by have := GA.out.bel.size; simp; omega) ?_); intro g9 cap9 w6 hown9 hg9 hat9 hlt9; have G6 := Lib.hid ((GA.out.alloc (.cells #[.int .i64 (S.i : Nat), .int .i64 ((x : Int) - S.i)] 46)).more2 hown9 hg9 rfl hat9); have x6 := HXB.out w6 G6.out.bel))
                  have HN2 := Lib.hid (show (⟨x + 1, y + 1, z + 1, S.out ++ cutL base S.i x, S.cl ++ [(S.i, x - S.i)]⟩ : MgS) = mgN base a b (faS base a) (faS base b) (x + 1) from by
                    rw [HNX.out, dif_neg (by rw [HN.out]; omega), show mgAdd (cutL base S.i x) (cutL a S.j y) (cutL b S.k z) = cutL base S.i x from by unfold mgAdd; rw [if_neg eq1, if_neg (fun h => h.elim eq2 (fun h => eq3 h.symm))], show mgClash (cutL base S.i x) (cutL a S.j y) (cutL b S.k z) = true from by unfold mgClash; rw [decide_eq_false eq1, decide_eq_false eq2, decide_eq_false (fun h => eq3 h.symm)]; rfl]
                    simp)
                  try go_wp2
                  go_roundw
                  case rel => exact ⟨x + 1, ⟨x + 1, y + 1, z + 1, S.out ++ cutL base S.i x, S.cl ++ [(S.i, x - S.i)]⟩, by omega, intNum, intNum, intNum, intNum, HN2, G6⟩
                  case measure => simp [intOf]; omega
    · have hxN : x = n + 1 := by omega
      subst hxN
      have HSE := Lib.hid (show S = mgE base a b by rw [HST.out]; unfold mgE; rw [HN.out])
      go_wp2
      go_ret2
      exact ⟨_, _, rfl, HBB.out.trans (HG.out.bel.mono HBB.out.size), by rw [← HSE.out]; exact Own.less (enc := fun s : ByteArray => [.string s]) (hn := fun _ => rfl) HG.out.o1 HBB.out.size, by rw [← HSE.out]; exact Own.less (enc := prC) (hn := fun _ => rfl) HG.out.o2 HBB.out.size⟩
end Go.Proofs.YtnnnmbipmfopmaaGreatDoor

/- script.Layout and script.Starts, walked. -/
namespace Go.Proofs.YtnnnmbipmfopmaaGreatDoor
set_option linter.unusedVariables false
open Go.RowKit Go.Sort

theorem fillB_len (b : Blk) : ∀ (m f : Nat) (P : List (List ByteArray)) (pg : List ByteArray), (fillB b m f P pg).1.length ≤ P.length + m
  | 0, _, _, _ => Nat.le_refl _
  | m + 1, f, P, pg => by
    unfold fillB
    split
    · show P.length ≤ _; omega
    · have := fillB_len b m (stopB b f (54 - pg.length)) (P ++ [pg ++ (b.lines.drop f).take (stopB b f (54 - pg.length) - f) ++ (if b.kind = 3 then [moreS] else [])]) (if b.kind = 3 then [contS b.name] else [])
      rw [List.length_append, List.length_singleton] at this
      omega
theorem putB_len (b : Blk) (r : List Blk) (q : PgQ) : (putB b r q).1.1.length ≤ q.1.length + (b.lines.length + 2) ∧ (putB b r q).2 ≤ q.1.length + 1 := by
  unfold putB
  dsimp only
  have h : (if topB b r q.2 = true ∧ ¬ q.2 = [] then q.1 ++ [q.2] else q.1).length ≤ q.1.length + 1 := by
    split
    · rw [List.length_append, List.length_singleton]; exact Nat.le_refl _
    · omega
  exact ⟨Nat.le_trans (fillB_len b _ 0 _ _) (by omega), h⟩
theorem layB_plen {M : Nat} : ∀ (l : List Blk) (q : PgQ) (st : List Nat), (∀ b ∈ l, b.lines.length ≤ M) → (layB l q.1 q.2 st).1.length ≤ q.1.length + l.length * (M + 2) ∧ ∀ s ∈ (layB l q.1 q.2 st).2.2, s ∈ st ∨ s ≤ q.1.length + l.length * (M + 2)
  | [], q, st, _ => ⟨by show q.1.length ≤ _; omega, fun s hs => .inl hs⟩
  | b :: r, q, st, h => by
    obtain ⟨h1, h2⟩ := putB_len b r q
    have hb := h b (by simp)
    obtain ⟨a, c⟩ := layB_plen r (putB b r q).1 (st ++ [(putB b r q).2]) (fun y hy => h y (by simp [hy]))
    rw [show layB (b :: r) q.1 q.2 st = layB r (putB b r q).1.1 (putB b r q).1.2 (st ++ [(putB b r q).2]) from rfl, List.length_cons, Nat.add_mul, Nat.one_mul]
    refine ⟨by omega, fun s hs => ?_⟩
    rcases c s hs with hs | hs
    · rcases List.mem_append.1 hs with hs | hs
      · exact .inl hs
      · rw [List.mem_singleton] at hs; subst hs; exact .inr (by omega)
    · exact .inr (by omega)
theorem valAt {w : World} {F : Nat → Prop} {l : List Value} {A : Option Addr} {n c : Nat} (h : Sli valR w F l (.slice A n c)) (k : Nat) (hk : k < l.length) : ∃ b off, A = some ⟨b, off, none⟩ ∧ F b ∧ w.cell? ⟨b, off + k, none⟩ = some l[k] := by
  obtain ⟨A', c', e, h1, h2, h3⟩ := h
  injection e with e1 e2 e3
  subst e1
  obtain ⟨b, off, cs, rfl, hF, hl, hc⟩ := h3 (by omega)
  refine ⟨b, off, rfl, hF, hc k _ ?_⟩
  have hz : (cs.drop (k * 1)).take 1 = [l[k]] := hl.2 k _ (List.getElem?_eq_getElem hk)
  rw [Nat.mul_one] at hz
  have := congrArg (fun q : List Value => q[0]?) hz
  simpa using this
end Go.Proofs.YtnnnmbipmfopmaaGreatDoor

/- revise.made, walked. -/
namespace Go.Proofs.YtnnnmbipmfopmaaGreatDoor
set_option linter.unusedVariables false
open Go.RowKit Go.Sort

def drC (dn : Int) (t : ByteArray) (v1 v2 v3 : Value) : Array Value := #[.int .i64 dn, .string t, v1, v2, v3]
set_option maxRecDepth 100000 in
set_option maxHeartbeats 16000000 in
theorem rvMade_c {F : Nat → Prop} (dn : Int) (t : ByteArray) (ls : List (Scene × Value)) (vS : Value) (Ag Al : Option Addr) (ng cg nl cl : Nat) (nos : List ByteArray) (An : Option Addr) (cn : Nat) (w : World) (h : ScL w F t ls vS) (hok : ∀ y ∈ ls, LnOk y.1) (hpn : ∀ y ∈ ls, y.1.paras.length ≤ 61) (hln : ls.length ≤ 91)
    (hno : Sli strR w F nos (.slice An nos.length cn)) (hns : ∀ n ∈ nos, n.size ≤ 100) (hnl : nos.length ≤ 1000) :
    Calls Tryz.prog 37 #[.agg (drC dn t vS (.slice Ag ng cg) (.slice Al nl cl)), .slice An nos.length cn] w (MadP (ls.map (·.1)) nos w) := by
  obtain ⟨i0, hi0, hz0, hz1, hz2⟩ := info_parts (show (Tryz.prog.info? 106).map (fun i => (i.zero, i.size, i.bytes)) = some (some (.agg #[.int .i64 0, .slice none 0 0, .slice none 0 0, .string ⟨#[]⟩]), 4, 72) by kernel_rfl)
  obtain ⟨is, his, hs0, hs1, hs2⟩ := info_parts (show (Tryz.prog.info? 9).map (fun i => (i.zero, i.size, i.bytes)) = some (some (.string ⟨#[]⟩), 1, 16) by kernel_rfl)
  obtain ⟨A, c, rfl, hlc, hcm⟩ := h.sli.form
  obtain ⟨L, hL⟩ : ∃ L, ls.length = L := ⟨_, rfl⟩
  have HL := Lib.hid hL
  obtain ⟨N, hN⟩ : ∃ N, nos.length = N := ⟨_, rfl⟩
  have HN := Lib.hid hN
  have HSC := Lib.hid (fun (W : World) (hb : Below w.heap.size w W) => h.below hb)
  have HNO := Lib.hid (fun (W : World) (hb : Below w.heap.size w W) => hno.below hb h.lt)
  have HOK := Lib.hid hok
  have HPN := Lib.hid hpn
  have HNS := Lib.hid hns
  have HFO := Lib.hid (sli_forms h.par)
  have hxok : ∀ x ∈ ls.map (·.1), LnOk x := fun x hx => by
    obtain ⟨y, hy, rfl⟩ := List.mem_map.1 hx
    exact hok y hy
  have hxpn : ∀ x ∈ ls.map (·.1), x.paras.length ≤ 61 := fun x hx => by
    obtain ⟨y, hy, rfl⟩ := List.mem_map.1 hx
    exact hpn y hy
  have HFW := Lib.hid (fun (k : Nat) => allB2_few hxok hxpn (nos.take k) (fun n hn => hns n (List.mem_of_mem_take hn)))
  have HLK := Lib.hid (fun (s : ByteArray) => show lk (mpC ls L) s = (fndS ls s).map scV from by
    have h1 := lk_mpC (ls := ls) (s := s) ls.length (Nat.le_refl _)
    rw [List.take_length, hL] at h1
    exact h1)
  have HFM := Lib.hid (fun (s : ByteArray) => fnd_map ls s)
  rw [hL] at hlc hln HSC ⊢
  rw [hN] at HNO hnl ⊢
  have HB0 := Lib.hid ((Below.refl w.heap.size w).alloc (Nat.le_refl _) (.cells (drC dn t (.slice A L c) (.slice Ag ng cg) (.slice Al nl cl)) 59))
  have HY := Lib.hid (str_cells (heap_alloc_new w (.cells (drC dn t (.slice A L c) (.slice Ag ng cg) (.slice Al nl cl)) 59))).1
  have HM0 := Lib.hid (MapL.made (κ := ByteArray) (mk := Value.string) (w.alloc (.cells (drC dn t (.slice A L c) (.slice Ag ng cg) (.slice Al nl cl)) 59)))
  have hz1w : (w.alloc (.cells (drC dn t (.slice A L c) (.slice Ag ng cg) (.slice Al nl cl)) 59)).heap.size = w.heap.size + 1 := by simp
  unfold drC at HB0 HY HM0 hz1w ⊢
  have hmm := @run_makeMap Tryz.prog
  clear h hno hok hpn hns hxok hxpn hL hN
  go_enter Tryz.func37, Tryz.ntmps37
  go_upto_region 1 with (fail)
  generalize w.alloc (.cells #[.int .i64 dn, .string t, .slice A L c, .slice Ag ng cg, .slice Al nl cl] 59) = w1 at *
  have y2 : w1.cell? ⟨w.heap.size, 2, none⟩ = some (.slice A L c) := HY.out 2
  have hMb := (Below.refl w1.heap.size w1).alloc (Nat.le_refl _) (.map #[] 0)
  have HB1 := Lib.hid (HB0.out.trans (hMb.mono (by omega)))
  have y2' : (w1.alloc (.map #[] 0)).cell? ⟨w.heap.size, 2, none⟩ = some (.slice A L c) := (hMb.cell (p := ⟨w.heap.size, 2, none⟩) (by show w.heap.size < _; omega)).trans y2
  have hz2w : (w1.alloc (.map #[] 0)).heap.size = w.heap.size + 2 := by simp [hz1w]
  clear hMb HB0 HY
  go_upto_region 2 with (fail)
  generalize w1.alloc (.map #[] 0) = w2 at *
  rw [hz1w] at HM0
  obtain ⟨M1, hM1⟩ : ∃ M1, w.heap.size + 1 = M1 := ⟨_, rfl⟩
  rw [hM1] at HM0 ⊢
  have hM1w : w.heap.size ≤ M1 := by omega
  have hM1z : M1 < w2.heap.size := by omega
  clear y2 hz1w hz2w hM1
  go_wp2
  go_loopw [24] (fun iv wr => ∃ k : Nat, k ≤ L ∧ iv = .int .i64 k ∧ Hid (MapL wr M1 Value.string (mpC ls k)) ∧ Hid (Below w.heap.size w wr)) (fun iv _ => L - (intOf iv).toNat)
  case atStart => exact ⟨0, Nat.zero_le _, rfl, HM0.out, HB1.out⟩
  case round =>
    clear HM0 HB1 y2' hmm
    obtain ⟨k, hk, rfl, HM, HB⟩ := hrel
    have hMz := HM.out.lt
    by_cases hlt : k < L
    · have hkl : k < ls.length := by rw [HL.out]; exact hlt
      have hHr := HSC.out wr HB.out
      obtain ⟨b, off, rfl, hfb, c0, c1, c2, c3, c4⟩ := scAt hHr.sli k hkl
      obtain ⟨A4, n4, cc4, h4⟩ := HFO.out _ (List.getElem_mem hkl)
      have HST := Lib.hid (show mpC ls (k + 1) = up (mpC ls k) (ls[k]'hkl).1.no (.agg #[.string (ls[k]'hkl).1.no, .int .i64 (ls[k]'hkl).1.place, .string (ls[k]'hkl).1.set, .int .i64 (ls[k]'hkl).1.time, .slice A4 n4 cc4]) by
        rw [mpC, List.getElem?_eq_getElem hkl]
        dsimp only
        unfold scV
        rw [h4])
      rw [h4] at c4
      generalize (ls[k]'hkl).1 = x at *
      have HM5 := Lib.hid (HM.out.alloc (.cells #[.string x.no, .int .i64 x.place, .string x.set, .int .i64 x.time, .slice A4 n4 cc4] 64))
      have HB5 := Lib.hid (HB.out.alloc (by have := HB.out.size; omega) (.cells #[.string x.no, .int .i64 x.place, .string x.set, .int .i64 x.time, .slice A4 n4 cc4] 64))
      clear h4 hHr hkl HM HB
      go_wp2_with (at_mapUpdate; refine wpList_update_plain _ rfl _ _ _ 100 rfl 9 64 keyMs Tryz.underlying100 M1 (mpC ls k) rfl HM5.out x.no rfl (.agg #[.string x.no, .int .i64 x.place, .string x.set, .int .i64 x.time, .slice A4 n4 cc4]) rfl ?_; intro w6 hm6 hg6; rw [← HST.out] at hm6; have HB6 := Lib.hid (HB5.out.grown hg6 (by have := HB5.out.size; omega) (fun b hb => by injection hb with hb; omega)); have HM6 := Lib.hid hm6; clear hm6 hg6)
      go_roundw
      case rel => exact ⟨k + 1, by omega, intNum, HM6, HB6⟩
      case measure => simp [intOf]; omega
    · have hkL : k = L := by omega
      subst hkL
      have hmm := @run_makeMap Tryz.prog
      have hbz := HB.out.size
      have HQ0 := Lib.hid (show BQ w [] (.slice none 0 0) M1 wr.heap.size (mpC ls k) [] (wr.alloc (.map #[] 0)) from
        ⟨HB.out.alloc hbz _, Own.nil_, HM.out.alloc _, MapL.made (κ := Int) (mk := Value.int .i64) wr, ⟨by omega, (fun e => by cases e), (fun e => by cases e), hM1w, hbz⟩, (fun y hy => by cases hy), (fun y hy => by cases hy)⟩)
      obtain ⟨M2, hM2⟩ : ∃ M2, wr.heap.size = M2 := ⟨_, rfl⟩
      rw [hM2] at HQ0
      have hM2v := hM2
      go_upto_region 9 with (fail)
      clear hmm
      generalize wr.alloc (.map #[] 0) = w3 at *
      clear hM2 hM2v HM HB hbz hMz
      obtain ⟨xs, hxs⟩ : ∃ xs, ls.map (·.1) = xs := ⟨_, rfl⟩
      have HXS := Lib.hid hxs
      rw [hxs] at HFW HFM
      clear hxs
      go_wp2
      go_loopw [9, 36] (fun v iv wr => ∃ (j : Nat) (l : List BkT), j ≤ N ∧ iv = .int .i64 j ∧ Hid (l.map (·.1) = allB2 xs (nos.take j)) ∧ Hid (BQ w l v M1 M2 (mpC ls k) (hdM xs nos j) wr)) (fun _ iv _ => N - (intOf iv).toNat)
      case atStart => exact ⟨0, [], Nat.zero_le _, rfl, rfl, HQ0⟩
      case round =>
        clear HQ0
        obtain ⟨j, l, hj, rfl, HK, HG⟩ := hrel
        obtain ⟨A3, q3, e3, _⟩ := HG.out.bkl.sli.form
        subst e3
        have hlb : l.length ≤ 62000 := by
          have h1 := (HFW.out j).1
          rw [← HK.out, List.length_map, List.length_take] at h1
          omega
        have hzr := HG.out.bel.size
        by_cases hlt : j < N
        · have hjl : j < nos.length := by rw [HN.out]; exact hlt
          obtain ⟨b, off, rfl, hfb, c0⟩ := strAt (HNO.out wr HG.out.bel) j hjl
          have HNZ := Lib.hid (HNS.out _ (List.getElem_mem hjl))
          have HHS := Lib.hid (show hdM xs nos (j + 1) = up (hdM xs nos j) (l.length : Int) (.string (nos[j]'hjl)) by rw [hdM_step hjl, ← HK.out, List.length_map])
          have HAS := Lib.hid (show allB2 xs (nos.take (j + 1)) = l.map (·.1) ++ entB xs (nos[j]'hjl) by rw [allB2_step hjl, HK.out])
          generalize nos[j]'hjl = no at *
          clear hjl
          go_upto_region 13 with (at_mapUpdate; refine wpList_update_plain _ rfl _ _ _ 102 rfl 3 9 keyMi Tryz.underlying102 M2 (hdM xs nos j) rfl HG.out.mb (l.length : Int) rfl (.string no) rfl ?_; intro w6 hm6 hg6; rw [← HHS.out] at hm6)
          have G6 := Lib.hid (HG.out.setM hm6 hg6)
          clear hm6 hg6 HG c0
          have HKM := Lib.hid (HLK.out no)
          cases hf : fndS ls no with
          | some y =>
            have hmem := fnd_mem hf
            obtain ⟨A4, n4, cc4, h4⟩ := HFO.out y hmem
            have hsc0 := (HSC.out w (Below.refl _ _)).par y hmem
            have HLV := Lib.hid (show lk (mpC ls k) no = some (.agg #[.string y.1.no, .int .i64 y.1.place, .string y.1.set, .int .i64 y.1.time, .slice A4 n4 cc4]) by
              rw [HKM.out, hf]
              show some (scV y) = _
              unfold scV
              rw [h4])
            have HEB := Lib.hid (show entB xs no = blocksS y.1 by
              have h1 := HFM.out no
              rw [hf] at h1
              unfold entB
              rw [h1]
              rfl)
            have HOx := Lib.hid (And.intro (HOK.out y hmem) (HPN.out y hmem))
            rw [h4] at hsc0
            have HPA := Lib.hid (fun (W : World) (hb : Below w.heap.size w W) => show Sli paraR W F y.1.paras (.slice A4 n4 cc4) ∧ (∀ q, F q → q < W.heap.size) from ⟨hsc0.below hb (HSC.out w (Below.refl _ _)).lt, (HSC.out W hb).lt⟩)
            obtain ⟨x, vx⟩ := y
            dsimp only at HLV HEB HOx HPA
            clear hf hmem h4 hsc0 HKM
            have HG7 := Lib.hid (G6.out.alloc (.cells #[.string x.no, .int .i64 x.place, .string x.set, .int .i64 x.time, .slice A4 n4 cc4] 64))
            have hx7 := heap_alloc_new w6 (.cells #[.string x.no, .int .i64 x.place, .string x.set, .int .i64 x.time, .slice A4 n4 cc4] 64)
            go_upto_region 15 with (first | (at_lookup; refine wpList_lookup_plain _ rfl _ _ 100 true rfl 9 64 keyMs Tryz.underlying100 (.agg #[.string ⟨#[]⟩, .int .i64 0, .string ⟨#[]⟩, .int .i64 0, .slice none 0 0]) (zeroSc _) M1 (mpC ls k) rfl G6.out.ma no rfl ?_; rw [HLV.out]; simp only [if_true, Option.getD_some, Option.isSome_some]) | fail)
            generalize w6.alloc (.cells #[.string x.no, .int .i64 x.place, .string x.set, .int .i64 x.time, .slice A4 n4 cc4] 64) = w7 at *
            obtain ⟨e0, e1, e2, e3, e4⟩ := sc_cells (str_cells hx7)
            have HBL := Lib.hid (Blocks_c x (.slice A4 n4 cc4) w7 (HPA.out w7 HG7.out.bel).1 (HPA.out w7 HG7.out.bel).2 HOx.out.1)
            have hxf := blocks_few HOx.out.1 HOx.out.2
            clear hx7 G6
            go_wp2_with fail
            refine HBL.out.mono ?_
            rintro e w9 ⟨l2, v2, rfl, hl2, hN2⟩
            obtain ⟨s1, s2, s3⟩ := hN2.parts
            obtain ⟨A2, c2, rfl, _, _⟩ := s1.form
            have hm2 : l2.length = (blocksS x).length := by rw [← hl2, List.length_map]
            have hm0 : 0 < l2.length := by
              obtain ⟨a, b, e, _⟩ := blocks_shape x
              rw [hm2, e]
              simp
            have hm62 : l2.length ≤ 62 := by rw [hm2]; exact hxf.1
            have G9 := Lib.hid (HG7.out.below hN2.bo.bel)
            have HS := Lib.hid s1
            have HO1 := Lib.hid (show ∀ y ∈ l2, ∀ u ∈ bkCs y, u.oneCell' = true from fun y hy => by
              obtain ⟨_, _, e1, _⟩ := (s2 y hy).form
              obtain ⟨_, _, e2, _⟩ := (s3 y hy).form
              exact bk_one e1 e2)
            have HP2 := Lib.hid (And.intro (fun y hy => HG7.out.fresh hN2.bo.bel.size (s2 y hy)) (fun y hy => HG7.out.fresh hN2.bo.bel.size (s3 y hy)))
            have HL2 := Lib.hid (show (l ++ l2).map (·.1) = allB2 xs (nos.take (j + 1)) by rw [List.map_append, hl2, HAS.out, HEB.out])
            have hzw9 := G9.out.bel.size
            clear hN2 s1 s2 s3 hl2 hm2 hxf HBL HG7 e0 e1 e2 e3 e4
            go_wp2_with (at_builtin; (refine wpList_appLm (n := 4) (enc := bkCs) (hn := fun _ => rfl) rfl _ _ _ rfl w.heap.size w.heap.size 106 i0 _ 72 Tryz.underlying101 hi0 hz0 hz1 hz2 rfl (by decide) _ (.slice A3 l.length q3) l rfl G9.out.bo l2 HO1.out A2 l2.length c2 rfl HS.out rfl hm0 (by unfold maxLen; omega) (by omega) hzw9 ?_); intro g2 capA wA hownA hgA hatA hltA)
            go_roundw
            case rel => exact ⟨j + 1, l ++ l2, by omega, intNum, HL2, Lib.hid (G9.out.more hownA hgA rfl hatA HP2.out.1 HP2.out.2)⟩
            case measure => simp [intOf]; omega
          | none =>
            have HLV := Lib.hid (show lk (mpC ls k) no = none by rw [HKM.out, hf]; rfl)
            have HEB := Lib.hid (show entB xs no = [blkWrap 0 (no ++ omitS)] by
              have h1 := HFM.out no
              rw [hf] at h1
              unfold entB
              rw [h1]
              rfl)
            clear hf HKM
            have HG7 := Lib.hid (G6.out.alloc (.cells #[.string ⟨#[]⟩, .int .i64 0, .string ⟨#[]⟩, .int .i64 0, .slice none 0 0] 64))
            have hnz := HNZ.out
            have hx1 : ¬ 9223372036854775807 < no.size + (⟨#[32, 79, 77, 73, 84, 84, 69, 68]⟩ : ByteArray).size := by
              have : (⟨#[32, 79, 77, 73, 84, 84, 69, 68]⟩ : ByteArray).size = 8 := rfl
              omega
            have hsz : (no ++ (⟨#[32, 79, 77, 73, 84, 84, 69, 68]⟩ : ByteArray)).size ≤ 1000000 := by
              rw [ByteArray.size_append]
              have : (⟨#[32, 79, 77, 73, 84, 84, 69, 68]⟩ : ByteArray).size = 8 := rfl
              omega
            have HNH := Lib.hid (fun (W : World) => NewHeading_c (no ++ (⟨#[32, 79, 77, 73, 84, 84, 69, 68]⟩ : ByteArray)) W hsz)
            clear hsz hnz
            go_upto_region 16 with (first | (at_lookup; refine wpList_lookup_plain _ rfl _ _ 100 true rfl 9 64 keyMs Tryz.underlying100 (.agg #[.string ⟨#[]⟩, .int .i64 0, .string ⟨#[]⟩, .int .i64 0, .slice none 0 0]) (zeroSc _) M1 (mpC ls k) rfl G6.out.ma no rfl ?_; rw [HLV.out]; simp only [if_true, Option.getD_none, Option.isSome_none]) | fail)
            generalize w6.alloc (.cells #[.string ⟨#[]⟩, .int .i64 0, .string ⟨#[]⟩, .int .i64 0, .slice none 0 0] 64) = w7 at *
            have hx1 : ¬ 9223372036854775807 < no.size + (⟨#[32, 79, 77, 73, 84, 84, 69, 68]⟩ : ByteArray).size := by
              have := HNZ.out
              have : (⟨#[32, 79, 77, 73, 84, 84, 69, 68]⟩ : ByteArray).size = 8 := rfl
              omega
            clear G6
            go_wp2_with fail
            refine (HNH.out w7).mono ?_
            rintro e w9 ⟨v1, rfl, hb9, ho9⟩
            have s2 := ho9.sliF (enc := fun x : ByteArray => [.string x]) (hn := fun _ => rfl) (F := fun q => w7.heap.size ≤ q ∧ q < w9.heap.size) (fun g hg => ho9.block g hg)
            obtain ⟨A2, c2, e2, _, _⟩ := s2.form
            subst e2
            obtain ⟨nw, hnw⟩ : ∃ nw, (wrapT (no ++ (⟨#[32, 79, 77, 73, 84, 84, 69, 68]⟩ : ByteArray)) 60).length = nw := ⟨_, rfl⟩
            have HL2 := Lib.hid (show (l ++ [((blkWrap 0 (no ++ omitS), .slice A2 nw c2, .slice none 0 0) : BkT)]).map (·.1) = allB2 xs (nos.take (j + 1)) by rw [List.map_append, HAS.out, HEB.out]; rfl)
            rw [hnw] at s2 ⊢
            have hal := (Below.refl w9.heap.size w9).alloc (Nat.le_refl _) (.cells #[.int .i64 0, .slice A2 nw c2, .slice none 0 0, .string ⟨#[]⟩] 106)
            have G9 := Lib.hid ((HG7.out.below hb9).alloc (.cells #[.int .i64 0, .slice A2 nw c2, .slice none 0 0, .string ⟨#[]⟩] 106))
            have hs2 := (HG7.out.fresh hb9.size s2).below hal (fun q hq => hq.2.1)
            have HP2 := Lib.hid (hs2.more (G := BQF w (.slice A3 l.length q3) M1 M2 (w9.alloc (.cells #[.int .i64 0, .slice A2 nw c2, .slice none 0 0, .string ⟨#[]⟩] 106))) fun q hq => ⟨hq.1, by have := hq.2.1; have := hal.size; omega, hq.2.2⟩)
            have hzw9 := (HG7.out.below hb9).bel.size
            clear hb9 ho9 s2 hnw hal hs2 HNH HG7 hx1
            go_wp2_with (at_builtin; (refine wpList_pushB (R := bkR) rfl _ _ _ rfl w.heap.size w.heap.size 106 i0 _ 72 Tryz.underlying101 hi0 hz0 hz1 hz2 rfl (by decide) _ (.slice A3 l.length q3) l rfl G9.out.bo ((blkWrap 0 (no ++ omitS), .slice A2 nw c2, .slice none 0 0) : BkT) _ rfl (by intro u hu; simp [bkCs] at hu; rcases hu with rfl | rfl | rfl | rfl <;> rfl) w9.heap.size _ _ (heap_alloc_new w9 _) rfl (by unfold maxLen; omega) (by omega) (by simp; omega) ?_); intro g2 capA wA hownA hgA hatA hltA)
            go_roundw
            case rel => exact ⟨j + 1, l ++ [((blkWrap 0 (no ++ omitS), .slice A2 nw c2, .slice none 0 0) : BkT)], by omega, intNum, HL2, Lib.hid (G9.out.more hownA hgA rfl hatA (fun y hy => by rw [List.mem_singleton.1 hy]; exact HP2.out) (fun y hy => by rw [List.mem_singleton.1 hy]; exact Sli.nil_))⟩
            case measure => simp [intOf]; omega
        · have hjN : j = N := by omega
          subst hjN
          have hall : nos.take j = nos := List.take_of_length_le (by rw [HN.out]; exact Nat.le_refl _)
          have hff := (HFW.out j).2
          rw [hall] at hff
          have hlk := HK.out
          rw [hall] at hlk
          have hmem : ∀ y ∈ l, y.1 ∈ allB2 xs nos := fun y hy => by rw [← hlk]; exact List.mem_map_of_mem hy
          have HLA := Lib.hid (Lay2_c l A3 q3 8500 wr HG.out.bkl (fun y hy => (hff _ (hmem y hy)).1) (fun y hy => (hff _ (hmem y hy)).2.1) (fun y hy => (hff _ (hmem y hy)).2.2) (by decide) (Nat.le_trans (Nat.mul_le_mul_right _ hlb) (by decide)))
          have HLL := Lib.hid hlk
          have HPB := Lib.hid (show (pagesB (l.map (·.1))).length ≤ 600000000 by
            have h1 := (layB_plen (M := 8500) (l.map (·.1)) ([], []) [] (fun b hb => by rw [hlk] at hb; exact (hff b hb).2.2)).1
            dsimp only [List.length_nil] at h1
            have h2 : (l.map (·.1)).length * (8500 + 2) ≤ 62000 * 8502 := Nat.mul_le_mul_right _ (by rw [List.length_map]; exact hlb)
            unfold pagesB
            rw [List.length_append]
            have h3 : (if (layB (l.map (·.1)) [] [] []).2.1 = [] then ([] : List (List ByteArray)) else [(layB (l.map (·.1)) [] [] []).2.1]).length ≤ 1 := by split <;> simp
            omega)
          have HBE := Lib.hid HG.out.bel
          have HMB := Lib.hid HG.out.mb
          clear hall hff hlk hmem HG
          go_wp2_with fail
          refine HLA.out.mono ?_
          rintro e w5 ⟨Ps, pgV, fV, sV, rfl, hPs, hfl, hMR⟩
          obtain ⟨A7, c7, e7⟩ := own_sl (hMR.own (26, Ps.map (·.2), pgV) (by simp))
          obtain ⟨A8, c8, e8⟩ := own_sl (hMR.own (3, frsB (l.map (·.1)), fV) (by simp))
          obtain ⟨A9, c9, e9⟩ := own_sl (hMR.own (3, (layB (l.map (·.1)) [] [] []).2.2.map (fun k : Nat => Value.int .i64 (k : Int)), sV) (by simp))
          dsimp only at e7 e8 e9
          rw [List.length_map] at e7 e9
          rw [layB_len, List.length_map] at e9
          obtain ⟨P, hP⟩ : ∃ P, Ps.length = P := ⟨_, rfl⟩
          have HPL := Lib.hid hP
          rw [hfl, hP] at e8
          rw [hP] at e7
          subst e7
          subst e8
          subst e9
          have hP6 : P ≤ 600000000 := by
            have h1 := HPB.out
            rw [← hPs, List.length_map, hP] at h1
            exact h1
          obtain ⟨zr, hzr2⟩ : ∃ zr, wr.heap.size = zr := ⟨_, rfl⟩
          have hzr3 : w.heap.size ≤ zr := by omega
          have HRP := Lib.hid (show Sli valR w5 (fun q => zr ≤ q ∧ q < w5.heap.size) (Ps.map (·.2)) (.slice A7 P c7) from by
            have ho := hMR.own (26, Ps.map (·.2), .slice A7 P c7) (by simp)
            rw [hzr2] at ho
            exact ho.sliF (enc := fun v : Value => [v]) (hn := fun _ => rfl) (fun g hg => ho.block g hg))
          have HRQ := Lib.hid (show ∀ q ∈ Ps, Sli strR w5 (fun q => zr ≤ q ∧ q < w5.heap.size) q.1 q.2 from fun q hq => by
            have hr := hMR.own (9, q.1.map Value.string, q.2) (by simp only [List.mem_cons, List.mem_map]; exact .inr (.inr (.inr ⟨q, hq, rfl⟩)))
            have hs := Own.strs hr
            rw [hzr2] at hs
            exact hs.sliF (enc := fun x : ByteArray => [.string x]) (hn := fun _ => rfl) (fun g hg => hs.block g hg))
          have HRF := Lib.hid (show Sli valR w5 (fun q => zr ≤ q ∧ q < w5.heap.size) (frsB (l.map (·.1))) (.slice A8 P c8) from by
            have ho := hMR.own (3, frsB (l.map (·.1)), .slice A8 P c8) (by simp)
            rw [hzr2] at ho
            exact ho.sliF (enc := fun v : Value => [v]) (hn := fun _ => rfl) (fun g hg => ho.block g hg))
          have HB5 := Lib.hid (HBE.out.trans (hMR.bel.mono HBE.out.size))
          have HM5 := Lib.hid (HMB.out.below hMR.bel HMB.out.lt)
          have HFL := Lib.hid (show (frsB (l.map (·.1))).length = P by rw [hfl, hP])
          have HPS := Lib.hid hPs
          have hz5 := HB5.out.size
          have hz5r := hMR.size
          have hal := (Below.refl w5.heap.size w5).alloc (Nat.le_refl _) (.cells #[.slice A7 P c7, .slice A8 P c8, .slice A9 l.length c9] 109)
          have HX6 := Lib.hid (heap_alloc_new w5 (.cells #[.slice A7 P c7, .slice A8 P c8, .slice A9 l.length c9] 109))
          have HAL := Lib.hid hal
          have hz56 : w5.heap.size < (w5.alloc (.cells #[.slice A7 P c7, .slice A8 P c8, .slice A9 l.length c9] 109)).heap.size := by simp
          clear hMR hPs hfl hP hal HLA HPB HBE HMB
          go_upto_region 19 with (fail)
          generalize w5.alloc (.cells #[.slice A7 P c7, .slice A8 P c8, .slice A9 l.length c9] 109) = w6 at *
          obtain ⟨gx, _⟩ := str_cells HX6.out
          have x1 : w6.cell? ⟨w5.heap.size, 1, none⟩ = some (.slice A8 P c8) := gx 1
          clear gx
          rw [HLL.out] at HRF HFL HPS
          obtain ⟨fb, hfb2⟩ : ∃ fb, frsB (allB2 xs nos) = fb := ⟨_, rfl⟩
          have HFB := Lib.hid hfb2
          have HFI := Lib.hid (frsB_int (allB2 xs nos))
          rw [hfb2] at HRF HFL HFI
          clear hfb2
          obtain ⟨m2, hm2⟩ : ∃ m2, hdM xs nos j = m2 := ⟨_, rfl⟩
          have HDV := Lib.hid (fun z => hdM_val xs nos j z)
          have HFE := Lib.hid (show frsS xs nos = fb.map fun v => strV (lk m2 (intV v)) by unfold frsS; rw [HFB.out, HN.out, hm2])
          rw [hm2] at HM5 HDV
          clear hm2
          go_wp2
          go_loopw [16, 67] (fun v iv wr => ∃ i : Nat, i ≤ P ∧ iv = .int .i64 i ∧ Hid (BO strR 9 w6 ((fb.take i).map fun v => strV (lk m2 (intV v))) v [] wr)) (fun _ iv _ => P - (intOf iv).toNat)
          case atStart => exact ⟨0, Nat.zero_le _, rfl, BO.start w6⟩
          case round =>
            clear x1
            obtain ⟨i, hi, rfl, HO⟩ := hrel
            have hzo := HO.out.size
            by_cases hlt : i < P
            · have hil : i < fb.length := by rw [HFL.out]; exact hlt
              have hrf := (HRF.out.below HAL.out (fun q hq => hq.2)).below HO.out.bel (fun q hq => by have := hq.2; omega)
              obtain ⟨b, off, rfl, hfb3, c0⟩ := valAt hrf i hil
              obtain ⟨z, hz⟩ := HFI.out _ (List.getElem_mem hil)
              rw [hz] at c0
              have HTK := Lib.hid (show (fb.take (i + 1)).map (fun v => strV (lk m2 (intV v))) = (fb.take i).map (fun v => strV (lk m2 (intV v))) ++ [strV (lk m2 z)] by
                rw [List.take_succ_eq_append_getElem hil, List.map_append, List.map_cons, List.map_nil, hz]
                rfl)
              have hll : ((fb.take i).map fun v => strV (lk m2 (intV v))).length = i := by rw [List.length_map, List.length_take, Nat.min_eq_left (by omega)]
              have HM6 := Lib.hid ((HM5.out.below HAL.out HM5.out.lt).below HO.out.bel (by have := HM5.out.lt; omega))
              have HZ := Lib.hid (HDV.out z)
              generalize strV (lk m2 z) = sz at *
              generalize ((fb.take i).map fun v => strV (lk m2 (intV v))) = acc at *
              obtain ⟨A6, c6, hv6, _, _⟩ := (HO.out.own.sliF (enc := fun x : ByteArray => [.string x]) (hn := fun _ => rfl) (F := fun _ => True) (fun _ _ => trivial)).form
              rw [hll] at hv6
              subst hv6
              have GA := Lib.hid (HO.out.alloc (.cells #[.string sz] 9))
              clear hil hrf hz HO
              go_wp2_with (first | (at_lookup; refine wpList_lookup_plain _ rfl _ _ 102 false rfl 3 9 keyMi Tryz.underlying102 (.string ⟨#[]⟩) (zeroSt _) M2 m2 rfl HM6.out z rfl ?_; simp only [Bool.false_eq_true, if_false]; rw [HZ.out]) | (at_builtin; (refine wpList_pushB (R := strR) rfl _ _ _ rfl w6.heap.size w6.heap.size 9 is _ 16 Tryz.underlying26 his hs0 hs1 hs2 rfl (by decide) _ (.slice A6 i c6) acc rfl GA.out.own sz _ rfl (oneC rfl) wr.heap.size _ _ (heap_alloc_new wr _) rfl (by unfold maxLen; omega) (by omega) (by simp; omega) ?_); intro g cap8 w8 hown8 hg8 hat8 hlt8))
              go_roundw
              case rel =>
                rw [hll] at hown8
                exact ⟨i + 1, by omega, intNum, Lib.hid (by rw [HTK.out]; exact GA.out.more hown8 hg8 rfl hat8)⟩
              case measure => simp [intOf]; omega
            · have hiP : i = P := by omega
              subst hiP
              have hall : fb.take i = fb := List.take_of_length_le (by rw [HFL.out]; exact Nat.le_refl _)
              obtain ⟨gx, _⟩ := str_cells ((HO.out.bel.block w5.heap.size hz56).trans HX6.out)
              have x0 : wr.cell? ⟨w5.heap.size, 0, none⟩ = some (.slice A7 i c7) := gx 0
              have ho := HO.out.own
              rw [hall, ← HFE.out] at ho
              have HR := Lib.hid (show MadP (ls.map (·.1)) nos w (.returned (.tuple #[.slice A7 i c7, u16])) wr from by
                rw [HXS.out]
                have hw6 := HAL.out.size
                have hww := HO.out.bel.size
                have key : ∀ {α : Type} {R : Rep α} (k : List α) z, Sli R w5 (fun q => zr ≤ q ∧ q < w5.heap.size) k z → Sli R wr (fun q => w.heap.size ≤ q ∧ q < wr.heap.size) k z := fun k z hs =>
                  ((hs.below HAL.out (fun q hq => hq.2)).below HO.out.bel (fun q hq => by have := hq.2; omega)).more fun q hq => ⟨by have := hq.1; omega, by have := hq.2; omega⟩
                exact ⟨Ps, _, _, rfl, (HB5.out.trans (HAL.out.mono hz5)).trans (HO.out.bel.mono (by omega)), HPS.out, by rw [HFE.out, List.length_map, HFL.out, HPL.out], by rw [HPL.out]; omega, key _ _ HRP.out, fun q hq => key _ _ (HRQ.out q hq), ho.sliF (enc := fun x : ByteArray => [.string x]) (hn := fun _ => rfl) (fun g hg => by have := ho.block g hg; exact ⟨by omega, this.2⟩)⟩)
              clear gx ho
              go_wp2
              go_ret2
              exact HR.out
end Go.Proofs.YtnnnmbipmfopmaaGreatDoor

/- revise.Lock, walked. -/
namespace Go.Proofs.YtnnnmbipmfopmaaGreatDoor
set_option linter.unusedVariables false
open Go.RowKit Go.Sort

/-- What stays below a place but for one block, beside a list that grows. -/
def KQ (z D : Nat) (w6 W : World) (v : Value) : Prop := z ≤ W.heap.size ∧ ∀ q, q < z → q ≠ D → W.heap[q]? = w6.heap[q]? ∧ v.ownBlock ≠ some q
theorem KQ.below {z D : Nat} {w6 W W' : World} {v : Value} (h : KQ z D w6 W v) (hb : Below W.heap.size W W') : KQ z D w6 W' v :=
  ⟨Nat.le_trans h.1 hb.size, fun q hq hD => ⟨(hb.block q (by have := h.1; omega)).trans (h.2 q hq hD).1, (h.2 q hq hD).2⟩⟩
theorem KQ.alloc {z D : Nat} {w6 W : World} {v : Value} (h : KQ z D w6 W v) (o : Obj) : KQ z D w6 (W.alloc o) v := h.below ((Below.refl _ W).alloc (Nat.le_refl _) o)
theorem KQ.more {z D g : Nat} {w6 W W' : World} {v v' : Value} (h : KQ z D w6 W v) (hg : W.grownBy W' v.ownBlock) (hv : v'.ownBlock = some g) (hat : v.ownBlock = some g ∨ g = W.heap.size) : KQ z D w6 W' v' :=
  ⟨Nat.le_trans h.1 hg.size, fun q hq hD => ⟨(hg.block q (by have := h.1; omega) (fun e => (h.2 q hq hD).2 e.symm)).trans (h.2 q hq hD).1, fun e => by
    rw [hv] at e
    injection e with e
    rcases hat with hat | hat
    · exact (h.2 q hq hD).2 (by rw [hat, e])
    · have := h.1; omega⟩⟩
theorem KQ.set {z D : Nat} {w6 W : World} {v : Value} (h : KQ z D w6 W v) (i : Nat) (u : Value) : KQ z D w6 (W.setCell ⟨D, i, none⟩ u) v :=
  ⟨by have := h.1; simpa [World.setCell] using this, fun q hq hD => ⟨(Below.heap_setCell W ⟨D, i, none⟩ u q (by show q ≠ D; exact hD)).trans (h.2 q hq hD).1, (h.2 q hq hD).2⟩⟩
theorem KQ.sli {z D : Nat} {w6 W : World} {v y : Value} {α : Type} {R : Rep α} {k : List α} {F : Nat → Prop} (h : KQ z D w6 W v) (hs : Sli R w6 F k y) (hF : ∀ q, F q → q < z ∧ q ≠ D) : Sli R W F k y :=
  hs.keep fun q hq => (h.2 q (hF q hq).1 (hF q hq).2).1
/-- A leaf as it lies in a row: its name, its draft, the entry that begins it, its lines' slice. -/
abbrev LfT := ByteArray × Int × ByteArray × Value
def lfC (x : LfT) : List Value := [.string x.1, .int .i64 x.2.1, .string x.2.2.1, x.2.2.2]
def lfR : Rep LfT := Rep.flat 4 lfC (fun _ => rfl)
def itN (i : Nat) : ByteArray := ⟨(Lib.itoa ((i : Int) + 1)).toArray⟩
def lvs (fs : List ByteArray) (Ps : List (List ByteArray × Value)) : Nat → List LfT
  | 0 => []
  | k + 1 => lvs fs Ps k ++ [(itN k, 1, (fs[k]?).getD ⟨#[]⟩, ((Ps[k]?).map (·.2)).getD (.slice none 0 0))]
theorem lvs_len (fs : List ByteArray) (Ps : List (List ByteArray × Value)) : ∀ k, (lvs fs Ps k).length = k
  | 0 => rfl
  | k + 1 => by rw [lvs, List.length_append, lvs_len fs Ps k]; rfl
theorem numL_len (l : List Scene) : ∀ k, (numL k l).length = l.length
  | 0 => rfl
  | k + 1 => by rw [numL, List.length_modify, numL_len l k]
theorem nbS_len (xs : List Scene) : (nbS xs).length = xs.length := by
  unfold nbS
  split
  · exact numL_len _ _
  · unfold cutS
    rw [List.length_modify, List.length_take, List.length_drop]
    omega
def drZ : Array Value := drC 0 ⟨#[]⟩ (.slice none 0 0) (.slice none 0 0) (.slice none 0 0)
/-- The pages of a script whose scenes have numbers, and the first entries of each. -/
def lkPg (xs : List Scene) : List (List ByteArray) := pagesB (allB2 xs (xs.map (·.no)))
def lkFr (xs : List Scene) : List ByteArray := frsS xs (xs.map (·.no))
def lockE (x : Script) : Int := if ¬ chkE x = 0 then chkE x else if ¬ nbE x.scenes = 0 then nbE x.scenes else if 999 < (lkPg (nbS x.scenes)).length then 2 else 0
def LockP (t : ByteArray) (xs : List Scene) (w : World) (e : Ending) (w' : World) : Prop := ∃ d : Value, e = .returned (.tuple #[d, .int .i64 (lockE ⟨t, xs⟩)]) ∧ Below w.heap.size w w' ∧ (¬ lockE ⟨t, xs⟩ = 0 → d = .agg drZ) ∧
  (lockE ⟨t, xs⟩ = 0 → ∃ (sc : List (Scene × Value)) (vS lv : Value) (Ps : List (List ByteArray × Value)), d = .agg (drC 1 t vS (.slice none 0 0) lv) ∧ sc.map (·.1) = nbS xs ∧ Ps.map (·.1) = lkPg (nbS xs) ∧ (lkFr (nbS xs)).length = Ps.length ∧
    Sli svR w' (fun q => w.heap.size ≤ q ∧ q < w'.heap.size) sc vS ∧ (∀ y ∈ sc, Sli paraR w' (fun q => w.heap.size ≤ q ∧ q < w'.heap.size) y.1.paras y.2) ∧ (∀ q ∈ Ps, Sli strR w' (fun q => w.heap.size ≤ q ∧ q < w'.heap.size) q.1 q.2) ∧
    Sli lfR w' (fun q => w.heap.size ≤ q ∧ q < w'.heap.size) (lvs (lkFr (nbS xs)) Ps Ps.length) lv)
theorem lockP_no {t : ByteArray} {xs : List Scene} {w w' : World} {z : Int} (hz : ¬ z = 0) (h : lockE ⟨t, xs⟩ = z) (hb : Below w.heap.size w w') : LockP t xs w (.returned (.tuple #[.agg drZ, .int .i64 z])) w' :=
  ⟨_, by rw [h], hb, fun _ => rfl, fun h2 => absurd (h.symm.trans h2) hz⟩
/-- What a scene's list in memory is to be for the pages of its entries. -/
theorem scl_of {w w' : World} {sc : List (Scene × Value)} {v : Value} {t : ByteArray} (h : BI w sc v [] w') (ht : t.size ≤ 1000000) (hl : sc.length ≤ 91) (hok : ∀ y ∈ sc, LnOk y.1 ∧ y.1.paras.length ≤ 61) : ScL w' (fun q => w.heap.size ≤ q ∧ q < w'.heap.size) t sc v :=
  ⟨h.bo.own.sli (fun b h1 h2 => ⟨h1, h2⟩) (fun g hg => h.bo.own.block g hg), fun y hy => (h.inn y hy).more fun q hq => ⟨hq.1, hq.2.1⟩, fun q hq => hq.2, ht, by omega, fun y hy => by
    have h1 := (hok y hy).1
    have h2 := (hok y hy).2
    have h3 := h1.sizes
    exact ⟨by omega, by omega, by omega, fun p hp => by have := (h1.para hp).1; omega⟩⟩
end Go.Proofs.YtnnnmbipmfopmaaGreatDoor

/- revise.Lock: the walk. -/
namespace Go.Proofs.YtnnnmbipmfopmaaGreatDoor
set_option linter.unusedVariables false
open Go.RowKit Go.Sort

set_option maxRecDepth 100000 in
set_option maxHeartbeats 16000000 in
theorem rvLock_c {F : Nat → Prop} (t : ByteArray) (ls : List (Scene × Value)) (v : Value) (w : World) (h : ScL w F t ls v) (hl : ls.length ≤ 91) (hm : MaxLaid w) (he : ErrsLaid w) (hp : PowLaid w)
    (hN : chkE ⟨t, ls.map (·.1)⟩ = 0 → nbE (ls.map (·.1)) = 0 → (∀ y ∈ nbS (ls.map (·.1)), LnOk y ∧ y.paras.length ≤ 61) ∧ SortsK ((nbS (ls.map (·.1))).map (·.no)) 41) :
    Calls Tryz.prog 24 #[.agg #[.string t, v]] w (LockP t (ls.map (·.1)) w) := by
  obtain ⟨i0, hi0, hz0, hz1, hz2⟩ := info_parts (show (Tryz.prog.info? 68).map (fun i => (i.zero, i.size, i.bytes)) = some (some (.agg #[.string ⟨#[]⟩, .int .i64 0, .string ⟨#[]⟩, .slice none 0 0]), 4, 64) by kernel_rfl)
  obtain ⟨A, c, rfl, hlc, hcm⟩ := h.sli.form
  obtain ⟨L, hL⟩ : ∃ L, ls.length = L := ⟨_, rfl⟩
  have htl := h.tl
  have HSC := Lib.hid (fun (W : World) (hb : Below w.heap.size w W) => h.below hb)
  have HMX := Lib.hid (fun (W : World) (hb : Below w.heap.size w W) => max_below hm hb (Nat.le_refl _))
  have HER := Lib.hid (fun (W : World) (hb : Below w.heap.size w W) => he.below hb (Nat.le_refl _))
  have HPO := Lib.hid (fun (W : World) (hb : Below w.heap.size w W) => pow_below hp hb (Nat.le_refl _))
  obtain ⟨xs, hxs⟩ : ∃ xs, ls.map (·.1) = xs := ⟨_, rfl⟩
  have HXS := Lib.hid hxs
  have HXL := Lib.hid (show xs.length = L by rw [← hxs, List.length_map]; exact hL)
  have HL := Lib.hid hL
  have HCH := Lib.hid (fun (W : World) (hb : Below w.heap.size w W) => show Calls Tryz.prog 35 #[.agg #[.string t, .slice A L c]] W (ChP ⟨t, xs⟩ W) from by
    have h1 := Check_c t ls (.slice A ls.length c) W (h.below hb) (max_below hm hb (Nat.le_refl _))
    rw [hL, hxs] at h1
    exact h1)
  have HNU := Lib.hid (fun (W : World) (hb : Below w.heap.size w W) (hc : chkE ⟨t, xs⟩ = 0) => show Calls Tryz.prog 36 #[.agg #[.string t, .slice A L c]] W (NbP t xs W) from by
    have h1 := rvNumb_c t ls (.slice A ls.length c) W (h.below hb) hl (by rw [hxs]; exact hc) (max_below hm hb (Nat.le_refl _)) (he.below hb (Nat.le_refl _))
    rw [hL, hxs] at h1
    exact h1)
  have HNN := Lib.hid hN
  rw [hxs] at HNN
  rw [hL] at hl hlc ⊢
  rw [hxs]
  have m0 : BO lfR 68 w [] (.slice none 0 0) [(w.heap.size + 1, drZ, 59), (w.heap.size, xCs t (.slice A L c), 56)] ((w.alloc (.cells (xCs t (.slice A L c)) 56)).alloc (.cells drZ 59)) := by
    have h := ((BO.start (R := lfR) (e := 68) w).new (xCs t (.slice A L c)) 56).new drZ 59
    rw [show (w.alloc (.cells (xCs t (.slice A L c)) 56)).heap.size = w.heap.size + 1 by simp] at h
    exact h
  clear h hm he hp hN hL hxs
  go_enter Tryz.func24, Tryz.ntmps24
  go_upto_region 1 with (fail)
  generalize hW : (w.alloc (.cells #[.string t, .slice A L c] 56)).alloc (.cells #[.int .i64 0, .string ⟨#[]⟩, .slice none 0 0, .slice none 0 0, .slice none 0 0] 59) = w1
  have G1 := Lib.hid (show BO lfR 68 w [] (.slice none 0 0) [(w.heap.size + 1, drZ, 59), (w.heap.size, xCs t (.slice A L c), 56)] w1 by rw [← hW]; exact m0)
  clear m0 hW
  have HXC := Lib.hid (fun (W : World) (h : BO lfR 68 w [] (.slice none 0 0) [(w.heap.size + 1, drZ, 59), (w.heap.size, xCs t (.slice A L c), 56)] W) => show (W.cell? ⟨w.heap.size, 0, none⟩ = some (.string t) ∧ W.cell? ⟨w.heap.size, 1, none⟩ = some (.slice A L c)) from
    have a := h.cell (p := (w.heap.size, xCs t (.slice A L c), 56)) (by simp)
    ⟨a.1 0, a.1 1⟩)
  have HRC := Lib.hid (fun (W : World) (hb : W.heap[w.heap.size + 1]? = some (.cells drZ 59 (0, 0))) => show (W.cell? ⟨w.heap.size + 1, 0, none⟩ = some (.int .i64 0) ∧ W.cell? ⟨w.heap.size + 1, 1, none⟩ = some (.string ⟨#[]⟩) ∧ W.cell? ⟨w.heap.size + 1, 2, none⟩ = some (.slice none 0 0) ∧ W.cell? ⟨w.heap.size + 1, 3, none⟩ = some (.slice none 0 0) ∧ W.cell? ⟨w.heap.size + 1, 4, none⟩ = some (.slice none 0 0)) ∧ (W.frozen? ⟨w.heap.size + 1, 0, none⟩ = false ∧ W.frozen? ⟨w.heap.size + 1, 1, none⟩ = false ∧ W.frozen? ⟨w.heap.size + 1, 2, none⟩ = false ∧ W.frozen? ⟨w.heap.size + 1, 3, none⟩ = false ∧ W.frozen? ⟨w.heap.size + 1, 4, none⟩ = false) from
    have a := str_cells hb
    ⟨⟨a.1 0, a.1 1, a.1 2, a.1 3, a.1 4⟩, a.2 0, a.2 1, a.2 2, a.2 3, a.2 4⟩)
  obtain ⟨d0, d1⟩ := HXC.out w1 G1.out
  have HCK := Lib.hid (HCH.out w1 G1.out.bel)
  go_wp2_with fail
  refine HCK.out.mono ?_
  rintro e w2 ⟨rfl, hb2⟩
  have G2 := Lib.hid (G1.out.below hb2)
  clear hb2 G1 d0 d1 HCK HCH
  obtain ⟨d0, d1⟩ := HXC.out w2 G2.out
  obtain ⟨⟨y0, y1, y2, y3, y4⟩, f0, f1, f2, f3, f4⟩ := HRC.out w2 (G2.out.prv (w.heap.size + 1, drZ, 59) (by simp)).1
  obtain ⟨E, hE⟩ : ∃ E, chkE ⟨t, xs⟩ = E := ⟨_, rfl⟩
  have HE := Lib.hid hE
  rw [hE]
  clear hE
  by_cases hE0 : E = 0
  case neg =>
    have q1 : (E == 0) = false := beq_eq_false_iff_ne.2 hE0
    have HNO := Lib.hid (fun (W : World) (hb : Below w.heap.size w W) => lockP_no (t := t) (xs := xs) hE0 (by unfold lockE; rw [HE.out, if_pos hE0]) hb)
    have HB2 := Lib.hid G2.out.bel
    clear hE0 G2 HE HNN HNU
    go_wp2
    refine ⟨rfl, .tuple #[.agg drZ, .int .i64 E], (by rw [results_cell_tmp rfl]; go_simp; rfl), ?_⟩
    refine HNO.out _ ?_
    repeat (first | with_reducible exact HB2.out | with_reducible refine Below.drew ?_ | with_reducible refine Below.setCell ?_ (by dsimp only; omega) _)
  subst hE0
  have HNB := Lib.hid (HNU.out w2 G2.out.bel HE.out)
  clear HNU
  go_wp2_with fail
  refine HNB.out.mono ?_
  rintro e w3 ⟨t', sc, v', rfl, hbi, hnb⟩
  obtain ⟨A5, c5, e5, _, _⟩ := (hbi.bo.own.sli (F := fun _ => True) (fun _ _ _ => trivial) (fun _ _ => trivial)).form
  subst e5
  unfold xCs
  have HBI := Lib.hid hbi
  have HNB2 := Lib.hid hnb
  have G3 := Lib.hid (G2.out.below hbi.bo.bel)
  have hzw2 := G2.out.size
  have hz23 := hbi.bo.bel.size
  clear hbi hnb HNB d0 d1 y0 y1 y2 y3 y4 f0 f1 f2 f3 f4
  obtain ⟨⟨y0, y1, y2, y3, y4⟩, f0, f1, f2, f3, f4⟩ := HRC.out w3 (G3.out.prv (w.heap.size + 1, drZ, 59) (by simp)).1
  have hR2 : w.heap.size + 1 < w2.heap.size := G2.out.plt (p := (w.heap.size + 1, drZ, 59)) (by simp)
  have hR3 : w.heap.size + 1 < w3.heap.size := by omega
  obtain ⟨E, hE⟩ : ∃ E, nbE xs = E := ⟨_, rfl⟩
  have HE2 := Lib.hid hE
  rw [hE] at HNB2 ⊢
  clear hE
  by_cases hE0 : E = 0
  case neg =>
    have q1 : (E == 0) = false := beq_eq_false_iff_ne.2 hE0
    have HNO := Lib.hid (fun (W : World) (hb : Below w.heap.size w W) => lockP_no (t := t) (xs := xs) hE0 (by unfold lockE; rw [if_neg (by rw [HE.out]; decide), HE2.out, if_pos hE0]) hb)
    have HB3 := Lib.hid G3.out.bel
    clear hE0 G2 G3 HE HE2 HNN HNB2 HBI
    go_wp2
    refine ⟨rfl, .tuple #[.agg drZ, .int .i64 E], (by rw [results_cell_tmp rfl]; go_simp; rfl), ?_⟩
    refine HNO.out _ ?_
    repeat (first | with_reducible exact HB3.out | with_reducible refine Below.alloc ?_ (by simp; omega) _ | with_reducible refine Below.drew ?_ | with_reducible refine Below.setCell ?_ (by dsimp only; omega) _)
  subst hE0
  obtain ⟨ht', hsc⟩ := HNB2.out rfl
  have ht2 := ht'.symm
  subst ht2
  clear ht'
  obtain ⟨hok, hso⟩ := HNN.out HE.out HE2.out
  have hscl : sc.length ≤ 91 := by
    have h1 := congrArg List.length hsc
    rw [List.length_map, nbS_len, HXL.out] at h1
    omega
  have HOK := Lib.hid (fun (y : Scene × Value) (hy : y ∈ sc) => hok y.1 (by rw [← hsc]; exact List.mem_map_of_mem hy))
  have HSL := Lib.hid (scl_of HBI.out htl hscl HOK.out)
  have HSO := Lib.hid hso
  have HSN := Lib.hid hsc
  clear HNN HNB2 hok hso hsc G2
  obtain ⟨S, hS⟩ : ∃ S, sc.length = S := ⟨_, rfl⟩
  have HS := Lib.hid hS
  rw [hS] at hscl ⊢
  rw [hS] at HBI HSL
  clear hS
  have hz30 := G3.out.size
  have G4 := Lib.hid (show BO lfR 68 w [] (.slice none 0 0) [(w3.heap.size + 1, drC 1 t (.slice A5 S c5) (.slice none 0 0) (.slice none 0 0), 59), (w.heap.size + 1, drZ, 59)] ((w3.alloc (.cells (xCs t (.slice A5 S c5)) 56)).alloc (.cells (drC 1 t (.slice A5 S c5) (.slice none 0 0) (.slice none 0 0)) 59)) from by
    have h := ((G3.out.less (Q := [(w.heap.size + 1, drZ, 59)]) (by simp)).alloc (.cells (xCs t (.slice A5 S c5)) 56)).new (drC 1 t (.slice A5 S c5) (.slice none 0 0) (.slice none 0 0)) 59
    rw [show (w3.alloc (.cells (xCs t (.slice A5 S c5)) 56)).heap.size = w3.heap.size + 1 by simp] at h
    exact h)
  have HB34 := Lib.hid (show Below w3.heap.size w3 ((w3.alloc (.cells (xCs t (.slice A5 S c5)) 56)).alloc (.cells (drC 1 t (.slice A5 S c5) (.slice none 0 0) (.slice none 0 0)) 59)) from ((Below.refl _ w3).alloc (Nat.le_refl _) _).alloc (by simp) _)
  have hz34 : ((w3.alloc (.cells (xCs t (.slice A5 S c5)) 56)).alloc (.cells (drC 1 t (.slice A5 S c5) (.slice none 0 0) (.slice none 0 0)) 59)).heap.size = w3.heap.size + 2 := by simp
  unfold xCs drC at G4 HB34 hz34
  have HZ34 := Lib.hid hz34
  clear hz34
  obtain ⟨D, hD⟩ : ∃ D, w3.heap.size + 1 = D := ⟨_, rfl⟩
  have hD3 : w3.heap.size < D := by omega
  have hDR : ¬ w.heap.size + 1 = D := by omega
  clear y0 y1 y2 y3 y4 f0 f1 f2 f3 f4 G3
  go_upto_region 8 with (fail)
  generalize (w3.alloc (.cells #[.string t, .slice A5 S c5] 56)).alloc (.cells #[.int .i64 1, .string t, .slice A5 S c5, .slice none 0 0, .slice none 0 0] 59) = w4 at *
  rw [hD] at G4
  have HD := Lib.hid hD
  clear hD
  have hD4 : D < w4.heap.size := by have := HZ34.out; have := HD.out; omega
  have hz34 : w3.heap.size ≤ w4.heap.size := by have := HZ34.out; omega
  have HDC := Lib.hid (fun (W : World) (lv : Value) (hb : W.heap[D]? = some (.cells (drC 1 t (.slice A5 S c5) (.slice none 0 0) lv) 59 (0, 0))) => show (W.cell? ⟨D, 0, none⟩ = some (.int .i64 1) ∧ W.cell? ⟨D, 1, none⟩ = some (.string t) ∧ W.cell? ⟨D, 2, none⟩ = some (.slice A5 S c5) ∧ W.cell? ⟨D, 3, none⟩ = some (.slice none 0 0) ∧ W.cell? ⟨D, 4, none⟩ = some lv) ∧ W.frozen? ⟨D, 4, none⟩ = false from
    have a := str_cells hb
    ⟨⟨a.1 0, a.1 1, a.1 2, a.1 3, a.1 4⟩, a.2 4⟩)
  have HDB := Lib.hid (fun (W : World) (hb : Below w4.heap.size w4 W) => (HDC.out W (.slice none 0 0) ((hb.block D hD4).trans (G4.out.prv (D, #[.int .i64 1, .string t, .slice A5 S c5, .slice none 0 0, .slice none 0 0], 59) (by simp)).1)).1)
  have HSCL := Lib.hid (fun (W : World) (hb : Below w4.heap.size w4 W) => show ScL W (fun q => q < w4.heap.size) t sc (.slice A5 S c5) from by
    have h1 := (HSL.out.below (HB34.out)).below hb
    have h2 := hb.size
    have h3 := HB34.out.size
    exact ⟨h1.sli.more (fun q hq => by have := hq.2; omega), fun y hy => (h1.par y hy).more (fun q hq => by have := hq.2; omega), fun q hq => by omega, h1.tl, h1.len, h1.bd⟩)
  have HB4 := Lib.hid G4.out.bel
  have HEN := Lib.hid (fun (W : World) (hb : Below w4.heap.size w4 W) => show Calls Tryz.prog 38 #[.agg #[.int .i64 1, .string t, .slice A5 S c5, .slice none 0 0, .slice none 0 0]] W (EntP (sc.map (·.1.no)) W) from
    entries_c 1 t sc (.slice A5 S c5) none 0 0 W (HSCL.out W hb) (by rw [HS.out]; exact hscl) (HER.out W (HB4.out.trans (hb.mono HB4.out.size))) (by
      have h1 := HSO.out
      rw [← HSN.out, List.map_map] at h1
      exact h1))
  obtain ⟨ι, ff, hne, hff, hfS⟩ := family (fun W => W.cell? ⟨D, 0, none⟩ = some (.int .i64 1) ∧ W.cell? ⟨D, 1, none⟩ = some (.string t) ∧ W.cell? ⟨D, 2, none⟩ = some (.slice A5 S c5) ∧ W.cell? ⟨D, 3, none⟩ = some (.slice none 0 0) ∧ W.cell? ⟨D, 4, none⟩ = some (.slice none 0 0)) w4 (HDB.out w4 (Below.refl _ _))
  have hneW : Nonempty World := ⟨w⟩
  have s0 := fun p => (hff p).1
  have s1 := fun p => (hff p).2.1
  have s2 := fun p => (hff p).2.2.1
  have s3 := fun p => (hff p).2.2.2.1
  have s4 := fun p => (hff p).2.2.2.2
  have HFS := Lib.hid hfS
  clear hff hfS
  refine wp_region_segs2 [2, 3] [4, 5, 6, 7, 8] [] [([], [0, 1], 2), ([], [], 3)] (by kernel_rfl) (by kernel_rfl) (fun _ _ _ dd _ h => by cases dd <;> exact h) (fun W => ∃ p : ι, W = ff p) (HFS.out _ (HDB.out w4 (Below.refl _ _))) ?_
  refine wpSegs2_step (by simp only [pick, List.getElem?_cons_succ, List.getElem?_cons_zero]; rfl) (by simp only [pick, List.getElem?_cons_succ, List.getElem?_cons_zero]; rfl) rfl (fun K0 hK0 L0 hL0 => ?_)
  repeat (first | go_big_quiet_step (fail) | quiet_step (fail))
  refine wpQuiet_nil (hL0 _ ?_)
  repeat (first | go_big_quiet_step (fail) | quiet_step (fail))
  refine wpQuiet_nil ?_
  go_simp
  refine (HEN.out w4.drew (Below.refl _ w4).drew).mono ?_
  rintro e w5 ⟨A7, c7, rfl, hns, hb5⟩
  have HB5 := Lib.hid (show Below w4.heap.size w4 w5 from (Below.refl _ w4).drew.trans hb5)
  have HNS := Lib.hid hns
  refine hK0 (fun W => ∃ p : ι, W = ff p) _ _ (fun _ h => h) (HFS.out _ (HDB.out _ HB5.out)) ?_
  clear hns hb5 HEN
  have hmn : (sc.map (·.1.no)).length = S := by rw [List.length_map, HS.out]
  have HMD := Lib.hid (show Calls Tryz.prog 37 #[.agg #[.int .i64 1, .string t, .slice A5 S c5, .slice none 0 0, .slice none 0 0], .slice A7 S c7] w5 (MadP (sc.map (·.1)) (sc.map (·.1.no)) w5) from by
    have h1 := rvMade_c (F := fun q => q < w5.heap.size) 1 t sc (.slice A5 S c5) none none 0 0 0 0 (sc.map (·.1.no)) A7 c7 w5 (by
      have h2 := HSCL.out w5 HB5.out
      have h3 := HB5.out.size
      exact ⟨h2.sli.more (fun q hq => by omega), fun y hy => (h2.par y hy).more (fun q hq => by omega), fun q hq => hq, h2.tl, h2.len, h2.bd⟩) (fun y hy => (HOK.out y hy).1) (fun y hy => (HOK.out y hy).2) (by rw [HS.out]; exact hscl) (HNS.out.more fun q hq => hq.2) (fun n hn => by
        obtain ⟨y, hy, rfl⟩ := List.mem_map.1 hn
        have := (HOK.out y hy).1.sizes.1
        omega) (by rw [hmn]; omega)
    rw [hmn] at h1
    exact h1)
  rw [hmn]
  refine wpSegs2_step (by simp only [pick, List.getElem?_cons_succ, List.getElem?_cons_zero]; rfl) (by simp only [pick, List.getElem?_cons_succ, List.getElem?_cons_zero]; rfl) rfl (fun K1 hK1 L1 hL1 => ?_)
  repeat (first | go_big_quiet_step (fail) | quiet_step (fail))
  refine wpQuiet_nil (hL1 _ ?_)
  repeat (first | go_big_quiet_step (fail) | quiet_step (fail))
  refine wpQuiet_nil ?_
  go_simp
  refine HMD.out.mono ?_
  rintro e w6 ⟨Ps, pV, fV, rfl, hb6, hPs, hfl, hP7, hr1, hr2, hr3⟩
  have HB6 := Lib.hid (HB5.out.trans (hb6.mono HB5.out.size))
  refine hK1 (fun W => ∃ p : ι, W = ff p) _ _ (fun _ h => h) (HFS.out _ (HDB.out _ HB6.out)) ?_
  obtain ⟨A8, c8, e8, _, _⟩ := hr1.form
  obtain ⟨A9, c9, e9, _, _⟩ := hr3.form
  subst e8
  subst e9
  obtain ⟨P, hP⟩ : ∃ P, Ps.length = P := ⟨_, rfl⟩
  have hfr : frsS (sc.map (·.1)) (sc.map (·.1.no)) = lkFr (nbS xs) := by
    unfold lkFr
    rw [← HSN.out, List.map_map]
    rfl
  have hpg : pagesB (allB2 (sc.map (·.1)) (sc.map (·.1.no))) = lkPg (nbS xs) := by
    unfold lkPg
    rw [← HSN.out, List.map_map]
    rfl
  rw [hfr] at hfl hr3 ⊢
  rw [hpg] at hPs
  obtain ⟨fs, hfs⟩ : ∃ fs, lkFr (nbS xs) = fs := ⟨_, rfl⟩
  have HFN := Lib.hid hfs
  rw [hfs] at hfl hr3 ⊢
  have HPS := Lib.hid hPs
  have HPL := Lib.hid hP
  have HFL := Lib.hid (hfl.trans hP)
  have HR1 := Lib.hid hr1
  have HR2 := Lib.hid hr2
  have HR3 := Lib.hid hr3
  have HPX := Lib.hid (show (lkPg (nbS xs)).length = P by rw [← hPs, List.length_map, hP])
  rw [hfl, hP, List.length_map, hP]
  rw [hP] at hP7
  have hz56 := hb6.size
  have hz45 := HB5.out.size
  have G6 := Lib.hid (G4.out.below HB6.out)
  clear HMD s0 s1 s2 s3 s4 HFS hr1 hr2 hr3 hfl hP hPs hfr hpg hfs hb6 G4 HNS hmn
  refine wpSegs2_fin (by simp only [pick, List.getElem?_cons_succ, List.getElem?_cons_zero]; rfl) (by simp only [pick, List.getElem?_cons_succ, List.getElem?_cons_zero]; rfl) (fun L2 hL2 => ?_)
  repeat (first | go_big_quiet_step (fail) | quiet_step (fail))
  refine wpQuiet_nil (hL2 _ ?_)
  repeat (first | go_big_quiet_step (fail) | quiet_step (fail))
  refine wpQuiet_nil ?_
  obtain ⟨⟨y0, y1, y2, y3, y4⟩, f0, f1, f2, f3, f4⟩ := HRC.out w6 (G6.out.prv (w.heap.size + 1, drZ, 59) (by simp)).1
  by_cases h999 : 999 < P
  · have HNO := Lib.hid (fun (W : World) (hb : Below w.heap.size w W) => lockP_no (t := t) (xs := xs) (z := 2) (by decide) (by unfold lockE; rw [if_neg (by rw [HE.out]; decide), if_neg (by rw [HE2.out]; decide), if_pos (by rw [HPX.out]; exact h999)]) hb)
    have HB7 := Lib.hid G6.out.bel
    have hi : (999 : Int) < (P : Int) := by omega
    have hR6 : w.heap.size + 1 < w6.heap.size := by omega
    clear G6 HE HE2
    go_wp2
    refine ⟨rfl, .tuple #[.agg drZ, .int .i64 2], (by rw [results_cell_tmp rfl]; go_simp; rfl), ?_⟩
    refine HNO.out _ ?_
    repeat (first | with_reducible exact HB7.out | with_reducible refine Below.drew ?_ | with_reducible refine Below.setCell ?_ (by dsimp only; omega) _)
  have hi : ¬ (999 : Int) < (P : Int) := by omega
  clear y0 y1 y2 y3 y4 f0 f1 f2 f3 f4
  have HK6 := Lib.hid (show KQ w6.heap.size D w6 w6 (.slice none 0 0) from ⟨Nat.le_refl _, fun q hq hD => ⟨rfl, fun e => by cases e⟩⟩)
  have hD5 : D < w5.heap.size := by omega
  go_wp2
  go_loopw [42] (fun iv wr => ∃ (i : Nat) (lv : Value), i ≤ P ∧ iv = .int .i64 i ∧ Hid (BO lfR 68 w (lvs fs Ps i) lv [(D, #[.int .i64 1, .string t, .slice A5 S c5, .slice none 0 0, lv], 59), (w.heap.size + 1, drZ, 59)] wr) ∧ Hid (KQ w6.heap.size D w6 wr lv)) (fun iv _ => P - (intOf iv).toNat)
  case atStart => exact ⟨0, _, Nat.zero_le _, rfl, G6, HK6⟩
  case round =>
    clear G6 HK6
    obtain ⟨i, lv, hi2, rfl, HO, HK⟩ := hrel
    have hll := lvs_len fs Ps i
    obtain ⟨A6, c6, hv6, _, _⟩ := (HO.out.own.sliF (enc := lfC) (hn := fun _ => rfl) (F := fun _ => True) (fun _ _ => trivial)).form
    rw [hll] at hv6
    subst hv6
    have hzo := HO.out.size
    by_cases hlt : i < P
    · have hil : i < Ps.length := by rw [HPL.out]; exact hlt
      have hif : i < fs.length := by rw [HFL.out]; exact hlt
      obtain ⟨bp, op, rfl, hbp, c0⟩ := valAt (HK.out.sli HR1.out (fun q hq => ⟨hq.2, by have := hq.1; omega⟩)) i (by rw [List.length_map]; exact hil)
      obtain ⟨bf, of, rfl, hbf, c1⟩ := strAt HR3.out i hif
      obtain ⟨A10, c10, e10, _, _⟩ := (HR2.out _ (List.getElem_mem hil)).form
      rw [List.getElem_map, e10] at c0
      have HST := Lib.hid (show lvs fs Ps (i + 1) = lvs fs Ps i ++ [(itN i, 1, fs[i]'hif, .slice A10 (Ps[i]'hil).1.length c10)] by
        rw [lvs, List.getElem?_eq_getElem hif, List.getElem?_eq_getElem hil, Option.map_some, e10]
        rfl)
      have HFC := Lib.hid (fun (W : World) (v : Value) (hk : KQ w6.heap.size D w6 W v) => show W.cell? ⟨bf, of + i, none⟩ = some (.string (fs[i]'hif)) from
        (World.cell?_of_block (a := ⟨bf, of + i, none⟩) (hk.2 bf hbf.2 (by have := hbf.1; omega)).1).trans c1)
      generalize fs[i]'hif = f at *
      generalize (Ps[i]'hil).1.length = n10 at *
      generalize lvs fs Ps i = acc at *
      clear c1 e10 hil hif
      have HDS := Lib.hid (fun (W : World) (l2 : List LfT) (v : Value) (hb : BO lfR 68 w l2 v [(D, #[.int .i64 1, .string t, .slice A5 S c5, .slice none 0 0, .slice A6 i c6], 59), (w.heap.size + 1, drZ, 59)] W) => show W.cell? ⟨D, 4, none⟩ = some (.slice A6 i c6) ∧ W.frozen? ⟨D, 4, none⟩ = false from
        have a := str_cells (hb.prv (D, #[.int .i64 1, .string t, .slice A5 S c5, .slice none 0 0, .slice A6 i c6], 59) (by simp)).1
        ⟨a.1 4, a.2 4⟩)
      go_upto_region 14 with (fail)
      clear c0
      obtain ⟨ι, ff, hne, hff, hfS⟩ := family (fun W => W.cell? ⟨D, 4, none⟩ = some (.slice A6 i c6) ∧ W.cell? ⟨bf, of + i, none⟩ = some (.string f)) wr ⟨(HDS.out _ _ _ HO.out).1, HFC.out _ _ HK.out⟩
      have hneW : Nonempty World := ⟨w⟩
      have s0 := fun p => (hff p).1
      have s1 := fun p => (hff p).2
      have HFS := Lib.hid hfS
      clear hff hfS
      refine wp_region_segs2 [4, 11, 12] [] [] [([0, 2, 3, 5, 6, 7, 9], [1, 8], 4), ([10], [], 11), ([], [], 12), ([13], [], 14)] (by kernel_rfl) (by kernel_rfl) (fun _ _ _ dd _ h => by cases dd <;> exact h) (fun W => ∃ p : ι, W = ff p) (HFS.out _ ⟨(HDS.out _ _ _ HO.out).1, HFC.out _ _ HK.out⟩) ?_
      refine wpSegs2_step (by simp only [pick, List.getElem?_cons_succ, List.getElem?_cons_zero]; rfl) (by simp only [pick, List.getElem?_cons_succ, List.getElem?_cons_zero]; rfl) rfl (fun K0 hK0 L0 hL0 => ?_)
      repeat (first | go_big_quiet_step (fail) | quiet_step (fail))
      refine wpQuiet_nil (hL0 _ ?_)
      repeat (first | go_big_quiet_step (fail) | quiet_step (fail))
      refine wpQuiet_nil ?_
      go_simp
      refine (itoa_c ((i : Int) + 1) wr.drew ⟨by omega, by omega⟩ (HPO.out _ HO.out.bel.drew)).mono ?_
      rintro e w7 ⟨rfl, hb7⟩
      have G7 := Lib.hid (HO.out.drew.below hb7)
      have K7 := Lib.hid ((HK.out.below (Below.refl _ wr).drew).below hb7)
      have hz7 := G7.out.size
      refine hK0 (fun W => ∃ p : ι, W = ff p) _ _ (fun _ h => h) (HFS.out _ ⟨(HDS.out _ _ _ G7.out).1, HFC.out _ _ K7.out⟩) ?_
      clear hb7 HO HK
      refine wpSegs2_step (by simp only [pick, List.getElem?_cons_succ, List.getElem?_cons_zero]; rfl) (by simp only [pick, List.getElem?_cons_succ, List.getElem?_cons_zero]; rfl) rfl (fun K1 hK1 L1 hL1 => ?_)
      repeat (first | go_big_quiet_step (fail) | quiet_step (fail))
      refine wpQuiet_nil (hL1 _ ?_)
      repeat (first | go_big_quiet_step (fail) | quiet_step (fail))
      refine wpQuiet_nil ?_
      go_simp
      have G8 := Lib.hid (G7.out.alloc (.cells #[.string (itN i), .int .i64 1, .string f, .slice A10 n10 c10] 68))
      have K8 := Lib.hid (K7.out.alloc (.cells #[.string (itN i), .int .i64 1, .string f, .slice A10 n10 c10] 68))
      have HNEW := Lib.hid (heap_alloc_new w7 (.cells #[.string (itN i), .int .i64 1, .string f, .slice A10 n10 c10] 68))
      have hz8 : w.heap.size ≤ (w7.alloc (.cells #[.string (itN i), .int .i64 1, .string f, .slice A10 n10 c10] 68)).heap.size := G8.out.size
      refine hK1 (fun W => ∃ p : ι, W = ff p) _ _ (fun _ h => h) (HFS.out _ ⟨(HDS.out _ _ _ G8.out).1, HFC.out _ _ K8.out⟩) ?_
      clear G7 K7
      refine wpSegs2_step (by simp only [pick, List.getElem?_cons_succ, List.getElem?_cons_zero]; rfl) (by simp only [pick, List.getElem?_cons_succ, List.getElem?_cons_zero]; rfl) rfl (fun K2 hK2 L2 hL2 => ?_)
      repeat (first | go_big_quiet_step (fail) | quiet_step (fail))
      refine wpQuiet_nil (hL2 _ ?_)
      repeat (first | go_big_quiet_step (fail) | quiet_step (fail))
      refine wpQuiet_nil ?_
      refine oper_push (R := lfR) rfl _ _ _ rfl w.heap.size w.heap.size 68 i0 _ 64 Tryz.underlying57 hi0 hz0 hz1 hz2 rfl (by decide) _ (.slice A6 i c6) acc rfl G8.out.own ((itN i, 1, f, .slice A10 n10 c10) : LfT) _ rfl (by intro u hu; simp [lfC] at hu; rcases hu with rfl | rfl | rfl | rfl <;> rfl) w7.heap.size _ _ HNEW.out rfl (by rw [hll]; unfold maxLen; omega) (by rw [hll]; omega) hz8 ?_
      intro g cap8 w8 hown8 hg8 hat8 hlt8
      have G9 := Lib.hid (G8.out.more hown8 hg8 rfl hat8)
      have K9 := Lib.hid (K8.out.more (v' := .slice (some ⟨g, 0, none⟩) (acc.length + 1) cap8) hg8 rfl hat8)
      refine hK2 (fun W => ∃ p : ι, W = ff p) _ _ (fun _ h => h) (HFS.out _ ⟨(HDS.out _ _ _ G9.out).1, HFC.out _ _ K9.out⟩) ?_
      have f8 := (HDS.out _ _ _ G9.out).2
      have c8 := (HDS.out _ _ _ G9.out).1
      rw [hll] at G9 K9 ⊢
      have GA := Lib.hid (G9.out.set (i := 4) (fun h => h) (.slice (some ⟨g, 0, none⟩) (i + 1) cap8) (fun p hp => by rw [List.mem_singleton.1 hp]; exact hDR))
      have KA := Lib.hid (K9.out.set 4 (.slice (some ⟨g, 0, none⟩) (i + 1) cap8))
      clear hown8 hg8 hat8 hlt8 G8 K8 G9 K9 HNEW
      refine wpSegs2_last (by simp only [pick, List.getElem?_cons_succ, List.getElem?_cons_zero]; rfl) (by simp only [pick, List.getElem?_cons_succ, List.getElem?_cons_zero]; rfl) rfl (by rfl) (fun K3 hK3 L3 hL3 => ?_)
      repeat (first | go_big_quiet_step (fail) | quiet_step (fail))
      refine wpQuiet_nil (hL3 _ ?_)
      repeat (first | go_big_quiet_step (fail) | quiet_step (fail))
      refine wpQuiet_nil ?_
      go_simp
      refine hK3 _ _ (wpSegs2_end ?_)
      clear s0 s1 f8 c8 hz8
      go_wp2
      go_roundw
      case rel => exact ⟨i + 1, _, by omega, intNum, Lib.hid (by rw [HST.out]; exact GA.out), KA⟩
      case measure => simp [intOf]; omega
    · have hiP : i = P := by omega
      subst hiP
      obtain ⟨⟨z0, z1, z2, z3, z4⟩, _⟩ := HDC.out wr _ (HO.out.prv (D, #[.int .i64 1, .string t, .slice A5 S c5, .slice none 0 0, .slice A6 i c6], 59) (by simp)).1
      obtain ⟨⟨y0, y1, y2, y3, y4⟩, f0, f1, f2, f3, f4⟩ := HRC.out wr (HO.out.prv (w.heap.size + 1, drZ, 59) (by simp)).1
      have hR6 : w.heap.size + 1 < wr.heap.size := HO.out.plt (p := (w.heap.size + 1, drZ, 59)) (by simp)
      have hlk : lockE ⟨t, xs⟩ = 0 := by
        unfold lockE
        rw [if_neg (by rw [HE.out]; decide), if_neg (by rw [HE2.out]; decide), if_neg (by rw [HPX.out]; exact h999)]
      have HLK := Lib.hid hlk
      have HEND := Lib.hid (fun (W : World) (hW : ∀ q, q ≠ w.heap.size + 1 → W.heap[q]? = wr.heap[q]?) (hz : wr.heap.size ≤ W.heap.size) (hb : Below w.heap.size w W) => show LockP t xs w (.returned (.tuple #[.agg (drC 1 t (.slice A5 S c5) (.slice none 0 0) (.slice A6 i c6)), .int .i64 0])) W from by
        have hzk := HK.out.1
        have h34 := HB34.out.size
        have hs3 := (HSL.out.below HB34.out).below HB6.out
        refine ⟨_, by rw [HLK.out], hb, fun h => absurd HLK.out h, fun _ => ⟨sc, _, _, Ps, rfl, HSN.out, HPS.out, by rw [HFN.out, HFL.out, HPL.out], ?_, fun y hy => ?_, fun q hq => ?_, ?_⟩⟩
        · exact ((HK.out.sli hs3.sli (fun q hq => by have := hq.2; omega)).keep fun q hq => hW q (by have := hq.1; omega)).more fun q hq => ⟨by have := hq.1; omega, by have := hq.2; omega⟩
        · exact ((HK.out.sli (hs3.par y hy) (fun q hq => by have := hq.2; omega)).keep fun q hq => hW q (by have := hq.1; omega)).more fun q hq => ⟨by have := hq.1; omega, by have := hq.2; omega⟩
        · exact ((HK.out.sli (HR2.out q hq) (fun q hq => ⟨hq.2, by have := hq.1; omega⟩)).keep fun q hq => hW q (by have := hq.1; omega)).more fun q hq => ⟨by have := hq.1; omega, by have := hq.2; omega⟩
        · have ho := HO.out.own
          rw [HFN.out, HPL.out]
          exact ((ho.sliF (enc := lfC) (hn := fun _ => rfl) (F := fun q => w.heap.size ≤ q ∧ q < wr.heap.size ∧ q ≠ w.heap.size + 1) (fun g hg => ⟨(ho.block g hg).1, (ho.block g hg).2, fun e => (HO.out.prv (w.heap.size + 1, drZ, 59) (by simp)).2.2 (by rw [hg, e])⟩)).keep fun q hq => hW q hq.2.2).more fun q hq => ⟨hq.1, by have := hq.2; omega⟩)
      have HBW := Lib.hid HO.out.bel
      clear hlk HO HK
      go_wp2
      refine ⟨rfl, .tuple #[.agg (drC 1 t (.slice A5 S c5) (.slice none 0 0) (.slice A6 i c6)), .int .i64 0], (by rw [results_cell_tmp rfl]; go_simp; rfl), ?_⟩
      refine HEND.out _ (fun q hq => ?_) ?_ ?_
      · simp only [Below.heap_setCell _ ⟨w.heap.size + 1, _, none⟩ _ q hq]
      · simp
      · repeat (first | with_reducible exact HBW.out | with_reducible refine Below.drew ?_ | with_reducible refine Below.setCell ?_ (by dsimp only; omega) _)
end Go.Proofs.YtnnnmbipmfopmaaGreatDoor

/- The gate of the laws of drafts: a small script is locked, and a number found. -/
namespace Go.Proofs.YtnnnmbipmfopmaaGreatDoor
set_option linter.unusedVariables false
open Go.RowKit Go.Sort

def dX : Scene := ⟨⟨#[]⟩, 1, ⟨#[72, 65, 76, 76]⟩, 1, []⟩
def dY : Scene := ⟨⟨#[49]⟩, 1, ⟨#[72, 65, 76, 76]⟩, 1, []⟩
theorem dX_nbE : nbE [dX] = 0 := by rfl
theorem dX_nbS : nbS [dX] = [dY] := by kernel_rfl
theorem dX_chk : chkE ⟨⟨#[84]⟩, [dX]⟩ = 0 := by rfl
theorem dY_pg : (lkPg [dY]).length = 1 := by kernel_rfl
theorem dY_fr : lkFr [dY] = [⟨#[49]⟩] := by kernel_rfl
theorem dX_lock : lockE ⟨⟨#[84]⟩, [dX]⟩ = 0 := by
  unfold lockE
  rw [if_neg (by rw [dX_chk]; decide), if_neg (by show ¬ ¬ nbE [dX] = 0; rw [dX_nbE]; decide), if_neg (by show ¬ 999 < (lkPg (nbS [dX])).length; rw [dX_nbS, dY_pg]; decide)]
theorem dY_ok : LnOk dY := ⟨⟨.inr (by kernel_rfl), by decide, by decide, by kernel_rfl, by kernel_rfl⟩, by decide⟩
theorem lfAt {w : World} {F : Nat → Prop} {l : List LfT} {A : Option Addr} {n c : Nat} (h : Sli lfR w F l (.slice A n c)) (k : Nat) (hk : k < l.length) : ∃ b off, A = some ⟨b, off, none⟩ ∧ F b ∧ w.cell? ⟨b, off + k * 4, none⟩ = some (.string l[k].1) ∧ w.cell? ⟨b, off + k * 4 + 1, none⟩ = some (.int .i64 l[k].2.1) ∧ w.cell? ⟨b, off + k * 4 + 2, none⟩ = some (.string l[k].2.2.1) ∧ w.cell? ⟨b, off + k * 4 + 3, none⟩ = some l[k].2.2.2 := by
  obtain ⟨b, off, a, e, hb, hr, hc⟩ := h.at_ k hk
  have ha : a = lfC l[k] := hr
  subst ha
  exact ⟨b, off, e, hb, hc 0 _ rfl, hc 1 _ rfl, hc 2 _ rfl, hc 3 _ rfl⟩
set_option maxRecDepth 100000 in
set_option maxHeartbeats 8000000 in
theorem drafts_c (w : World) (hm : MaxLaid w) (he : ErrsLaid w) (hp : PowLaid w) : Calls Tryz.prog 12 #[] w fun e w' => e = .returned (.bool true) ∧ Below w.heap.size w w' := by
  have HB1 := Lib.hid ((Below.refl w.heap.size w).alloc (Nat.le_refl _) (.cells #[.string ⟨#[]⟩, .int .i64 1, .string ⟨#[72, 65, 76, 76]⟩, .int .i64 1, .slice none 0 0] 64))
  have hz1 : w.heap.size < (w.alloc (.cells #[.string ⟨#[]⟩, .int .i64 1, .string ⟨#[72, 65, 76, 76]⟩, .int .i64 1, .slice none 0 0] 64)).heap.size := by simp
  have HS := Lib.hid (show ScL (w.alloc (.cells #[.string ⟨#[]⟩, .int .i64 1, .string ⟨#[72, 65, 76, 76]⟩, .int .i64 1, .slice none 0 0] 64)) (fun q => q = w.heap.size) ⟨#[84]⟩ [(dX, .slice none 0 0)] (.slice (some ⟨w.heap.size, 0, none⟩) 1 1) from
    ⟨Sli.new (R := svR) (cs := [.string ⟨#[]⟩, .int .i64 1, .string ⟨#[72, 65, 76, 76]⟩, .int .i64 1, .slice none 0 0]) 64 1 (Lay.one (R := svR) (x := (dX, .slice none 0 0)) rfl) rfl (Nat.le_refl _) (by decide), fun y hy => by rw [List.mem_singleton.1 hy]; exact Sli.nil_, fun q hq => by rw [show q = _ from hq]; exact hz1, by decide, by decide, fun y hy => by
      rw [List.mem_singleton.1 hy]
      exact ⟨by decide, by decide, by decide, fun p hp => by cases hp⟩⟩)
  have HER := Lib.hid (fun (W : World) (hb : Below w.heap.size w W) => he.below hb (Nat.le_refl _))
  have HLK := Lib.hid (rvLock_c ⟨#[84]⟩ [(dX, .slice none 0 0)] (.slice (some ⟨w.heap.size, 0, none⟩) 1 1) _ HS.out (by decide) (max_below hm HB1.out (Nat.le_refl _)) (HER.out _ HB1.out) (pow_below hp HB1.out (Nat.le_refl _)) (fun _ _ => by
    show (∀ y ∈ nbS [dX], LnOk y ∧ y.paras.length ≤ 61) ∧ SortsK ((nbS [dX]).map (·.no)) _
    rw [dX_nbS]
    exact ⟨fun y hy => by rw [List.mem_singleton.1 hy]; exact ⟨dY_ok, by decide⟩, sorts1 _ _ (by decide)⟩))
  clear hm he hp HS
  go_enter Tryz.func12, Tryz.ntmps12
  go_upto_region 1 with (fail)
  go_wp2_with fail
  refine HLK.out.mono ?_
  rintro e w2 ⟨d, rfl, hb2, _, hd⟩
  obtain ⟨sc, vS, lv, Ps, rfl, hsc, hPs, hfl, hq1, _, _, hlv⟩ := hd dX_lock
  have HB2 := Lib.hid (HB1.out.trans (hb2.mono HB1.out.size))
  rw [show lockE ⟨⟨#[84]⟩, [((dX, .slice none 0 0) : Scene × Value)].map (·.1)⟩ = 0 from dX_lock]
  obtain ⟨A5, c5, e5, _, _⟩ := hq1.form
  subst e5
  have hP : Ps.length = 1 := by
    have h1 := congrArg List.length hPs
    rw [List.length_map] at h1
    rw [h1]
    show (lkPg (nbS [dX])).length = 1
    rw [dX_nbS]
    exact dY_pg
  have hfs : lkFr (nbS ([((dX, .slice none 0 0) : Scene × Value)].map (·.1))) = [⟨#[49]⟩] := by
    show lkFr (nbS [dX]) = _
    rw [dX_nbS]
    exact dY_fr
  rw [hfs, hP] at hlv
  obtain ⟨A6, c6, e6, _, _⟩ := hlv.form
  subst e6
  obtain ⟨b, off, e7, hb, _, _, q2, _⟩ := lfAt hlv 0 (by rw [lvs_len]; decide)
  subst e7
  have q2' : w2.cell? ⟨b, off + 2, none⟩ = some (.string ⟨#[49]⟩) := by
    have h1 : (lvs [⟨#[49]⟩] Ps 1)[0]'(by rw [lvs_len]; decide) = (itN 0, 1, ⟨#[49]⟩, ((Ps[0]?).map (·.2)).getD (.slice none 0 0)) := rfl
    rw [h1] at q2
    simpa using q2
  rw [lvs_len]
  unfold drC
  have HBW := Lib.hid (HB2.out.alloc HB2.out.size (.cells #[.int .i64 1, .string ⟨#[84]⟩, .slice A5 sc.length c5, .slice none 0 0, .slice (some ⟨b, off, none⟩) 1 c6] 59))
  have hq : Hid (∀ W, Below (w2.alloc (.cells #[.int .i64 1, .string ⟨#[84]⟩, .slice A5 sc.length c5, .slice none 0 0, .slice (some ⟨b, off, none⟩) 1 c6] 59)).heap.size (w2.alloc (.cells #[.int .i64 1, .string ⟨#[84]⟩, .slice A5 sc.length c5, .slice none 0 0, .slice (some ⟨b, off, none⟩) 1 c6] 59)) W → W.cell? ⟨w2.heap.size, 4, none⟩ = some (.slice (some ⟨b, off, none⟩) 1 c6) ∧ W.cell? ⟨b, off + 2, none⟩ = some (.string ⟨#[49]⟩)) := Lib.hid fun W hx => by
    obtain ⟨yy, _⟩ := str_cells ((hx.block w2.heap.size (by simp)).trans (heap_alloc_new w2 _))
    refine ⟨yy 4, ?_⟩
    rw [hx.cell (p := ⟨b, off + 2, none⟩) (by have := hb.2; simp; omega), World.cell?_alloc_lt w2 _ ⟨b, off + 2, none⟩ hb.2]
    exact q2'
  have HBT := Lib.hid (Between12_c (w2.alloc (.cells #[.int .i64 1, .string ⟨#[84]⟩, .slice A5 sc.length c5, .slice none 0 0, .slice (some ⟨b, off, none⟩) 1 c6] 59)) (HER.out _ HBW.out))
  clear q2 q2' hlv hq1 hfs hP hPs hfl hsc hd hb hb2 HLK
  go_upto_region 2 with (fail)
  generalize w2.alloc (.cells #[.int .i64 1, .string ⟨#[84]⟩, .slice A5 sc.length c5, .slice none 0 0, .slice (some ⟨b, off, none⟩) 1 c6] 59) = w3 at *
  go_wp2_with fail
  refine HBT.out.mono ?_
  rintro e w4 ⟨rfl, hb4⟩
  obtain ⟨z4, z2⟩ := hq.out w4 hb4
  have HB4 := Lib.hid (HBW.out.trans (hb4.mono HBW.out.size))
  clear hb4 HBT
  go_wp2
  go_ret
  exact ⟨rfl, HB4.out⟩
end Go.Proofs.YtnnnmbipmfopmaaGreatDoor

