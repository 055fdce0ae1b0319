/- The program's functions on rolls, looked up and checked. -/
import Derived.Test.YtndgdbncfplndaaDoorRows
import Derived.Test.YtndgdbncfplndaaDoorMap
import Derived.Test.YtndgdbncfplndaaDoorRollW
import Derived.BigQuiet
import Derived.Deep.RegionWith
import Derived.Deep.QuietTactic
namespace Go.Proofs.YtndgdbncfplndaaDoor
set_option linter.unusedVariables false
open Go.RowKit

set_option maxHeartbeats 400000 in
theorem idxRoll_c (A : Option Addr) (l : List Roll) (c g lo : Nat) (cb : Array Value) (p : Roll → Bool) (w : World) (hr : Rs w lo w.heap.size 5 Roll.cells A l) (hlen : l.length ≤ 140737488355328)
    (hp : PredC Tryd.prog g cb Roll.val p w) :
    Calls Tryd.prog 82 #[.slice A l.length c, .func (.func g) #[] cb] w fun e w' => e = .returned (.int .i64 (idxV (l.findIdx? p))) ∧ Below w.heap.size w w' := by
  have eg := hp.1
  have HP := Lib.hid hp.2; clear hp
  go_enter Tryd.func82, Tryd.ntmps82
  go_wp2
  go_loopw [5, 8] (fun v i wr => ∃ k : Nat, k ≤ l.length ∧ i = .int .i64 k ∧ Below w.heap.size w wr ∧ Hid (∀ x ∈ l.take k, p x = false)) (fun _ i _ => l.length - (intOf i).toNat)
  case atStart => exact ⟨0, Nat.zero_le _, rfl, Below.refl _ _, by intro x hx; simp at hx⟩
  case round =>
    obtain ⟨k, hk, rfl, hb, HN⟩ := hrel
    by_cases hlt : k < l.length
    · obtain ⟨b, off, rfl, _, hbl, hc⟩ := (hr.below hb (Nat.le_refl _)).at_ hlt
      have c0 : wr.cell? ⟨b, off + k * 5, none⟩ = _ := hc 0 _ rfl
      have c1 := hc 1 _ rfl
      have c2 := hc 2 _ rfl
      have c3 := hc 3 _ rfl
      have c4 := hc 4 _ rfl
      clear hc
      cases hv : p l[k]
      all_goals
        have HV := Lib.hid hv; clear hv
        go_wp2_with fail
        refine (HP.out l[k] wr hb).mono ?_
        rintro e w' ⟨rfl, hb'⟩
        rw [HV.out]
        go_wp2
      · go_roundw
        case rel => exact ⟨k + 1, by omega, intNum, hb.trans (hb'.mono hb.size), take_next hlt HN.out HV.out⟩
        case measure => simp [intOf]; omega
      · go_ret
        have H := findIdx_at HN.out hlt HV.out
        exact ⟨by rw [H]; rfl, hb.trans (hb'.mono hb.size)⟩
    · go_wp2
      go_ret
      have H := findIdx_no (take_all hlt HN.out)
      exact ⟨by rw [H]; rfl, hb⟩

/-- A variable's own cell keeps what it holds. -/
theorem cellC {w W : World} {b : Nat} {v : Value} (h : w.cell? ⟨b, 0, none⟩ = some v) (hb : Below w.heap.size w W) (hlt : b < w.heap.size) : W.cell? ⟨b, 0, none⟩ = some v := (hb.cell (p := ⟨b, 0, none⟩) hlt).trans h

set_option maxHeartbeats 400000 in
theorem rollOf1_p (s : ByteArray) (b : Nat) (w : World) (h : w.cell? ⟨b, 0, none⟩ = some (.string s)) (hlt : b < w.heap.size) :
    PredC Tryd.prog 83 #[.pointer (some ⟨b, 0, none⟩)] Roll.val (fun y => decide (y.name = s)) w := by
  refine ⟨fun _ _ => by kernel_rfl, fun x W hb => ?_⟩
  have hc := cellC h hb hlt
  have hs := hb.size
  have hl : b < W.heap.size := by omega
  clear h hb hlt hs
  show Calls Tryd.prog _ #[.agg #[.string x.name, .int .i64 x.rate, .int .i64 x.start, .int .i64 x.long, .int .i64 x.drift], .pointer (some ⟨b, 0, none⟩)] W _
  go_enter Tryd.func83, Tryd.ntmps83
  go_wp2
  go_ret
  exact ⟨ret_bool (beqS _ _), (Below.refl _ _).alloc (Nat.le_refl _) _⟩

set_option maxHeartbeats 400000 in
theorem rollOf_c (A : Option Addr) (l : List Roll) (c lo : Nat) (s : ByteArray) (w : World) (hr : Rs w lo w.heap.size 5 Roll.cells A l) (hlen : l.length ≤ 140737488355328) :
    Calls Tryd.prog 46 #[.slice A l.length c, .string s] w fun e w' =>
      e = .returned (.tuple #[.agg #[.string (rollGet l s).name, .int .i64 (rollGet l s).rate, .int .i64 (rollGet l s).start, .int .i64 (rollGet l s).long, .int .i64 (rollGet l s).drift], .bool (rollHas l s)]) ∧ Below w.heap.size w w' := by
  have HR := Lib.hid hr; clear hr
  cases hi : rollIdx l s with
  | none =>
    have H0 := Lib.hid (show idxV (l.findIdx? fun y => decide (y.name = s)) = -1 by show idxV (rollIdx l s) = _; rw [hi]; rfl)
    have H1 := Lib.hid (show rollGet l s = Roll.zero by simp [rollGet, hi])
    have H2 := Lib.hid (show rollHas l s = false by simp [rollHas, hi])
    clear hi
    go_enter Tryd.func46, Tryd.ntmps46
    go_wp2_with fail
    refine (idxRoll_c A l c 83 lo #[.pointer (some ⟨w.heap.size, 0, none⟩)] (fun y => decide (y.name = s)) _
      (((HR.out.alloc (Nat.le_refl _) _).alloc (by simp) _).more (Nat.le_refl _) (by simp; omega)) hlen (rollOf1_p s w.heap.size _ (by go_simp) (by simp; omega))).mono ?_
    rintro e w' ⟨rfl, hb⟩
    rw [H0.out]
    have HB := Lib.hid ((((Below.refl w.heap.size w).alloc (Nat.le_refl _) _).alloc (by simp) _).trans (hb.mono (by simp; omega)))
    obtain ⟨hc, hf⟩ := bcell hb
    clear hb
    go_wp2
    refine bodyPost_ret (v := .tuple #[.agg #[.string ⟨#[]⟩, .int .i64 0, .int .i64 0, .int .i64 0, .int .i64 0], .bool false]) (by simp [results, Tryd.results46, go_sem, hc]) rfl ⟨?_, ?_⟩
    · rw [H1.out, H2.out]; rfl
    · repeat' refine Below.setCell ?_ (by simp) _
      exact HB.out
  | some k =>
    have hk := rollIdx_lt hi
    have H0 := Lib.hid (show idxV (l.findIdx? fun y => decide (y.name = s)) = (k : Int) by show idxV (rollIdx l s) = _; rw [hi]; rfl)
    have H1 := Lib.hid (show rollGet l s = l[k] by simp [rollGet, hi, hk])
    have H2 := Lib.hid (show rollHas l s = true by simp [rollHas, hi])
    clear hi
    go_enter Tryd.func46, Tryd.ntmps46
    go_wp2_with fail
    refine (idxRoll_c A l c 83 lo #[.pointer (some ⟨w.heap.size, 0, none⟩)] (fun y => decide (y.name = s)) _
      (((HR.out.alloc (Nat.le_refl _) _).alloc (by simp) _).more (Nat.le_refl _) (by simp; omega)) hlen (rollOf1_p s w.heap.size _ (by go_simp) (by simp; omega))).mono ?_
    rintro e w' ⟨rfl, hb⟩
    rw [H0.out]
    obtain ⟨b, off, rfl, _, hbl, hc⟩ := (((HR.out.alloc (Nat.le_refl _) _).alloc (by simp) _).below hb (by simp; omega)).at_ hk
    have c0 : w'.cell? ⟨b, off + k * 5, none⟩ = _ := hc 0 _ rfl
    have c1 := hc 1 _ rfl
    have c2 := hc 2 _ rfl
    have c3 := hc 3 _ rfl
    have c4 := hc 4 _ rfl
    clear hc
    have HB := Lib.hid ((((Below.refl w.heap.size w).alloc (Nat.le_refl _) _).alloc (by simp) _).trans (hb.mono (by simp; omega)))
    obtain ⟨hc, hf⟩ := bcell hb
    clear hb
    go_wp2
    refine bodyPost_ret (v := .tuple #[.agg #[.string l[k].name, .int .i64 l[k].rate, .int .i64 l[k].start, .int .i64 l[k].long, .int .i64 l[k].drift], .bool true]) (by simp [results, Tryd.results46, go_sem, hc]) rfl ⟨?_, ?_⟩
    · rw [H1.out, H2.out]
    · repeat' refine Below.setCell ?_ (by simp) _
      exact HB.out
end Go.Proofs.YtndgdbncfplndaaDoor
