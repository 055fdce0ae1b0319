/- The law TakeFiles walked: for every list of numbers and every list of texts it returns true and leaves what was there. -/
import Derived.Test.YtnjbbkocobegiaaDoorRows
import Derived.Test.YtnjbbkocobegiaaDoorTakesW
import Derived.Test.YtnjbbkocobegiaaDoorGenG
import Derived.Test.YtnjbbkocobegiaaDoorFilesM
import Derived.Test.YtnjbbkocobegiaaDoorFilesN
import Derived.Test.YtnjbbkocobegiaaDoorFilesT
import Derived.Test.YtnjbbkocobegiaaDoorLawA
import Derived.Deep.DeepCutAuto
namespace Go.Proofs.YtnjbbkocobegiaaDoor
set_option linter.unusedVariables false
open Go.RowKit

theorem gSli {α : Type} {R : Rep α} {w w1 : World} {o : Obj} {l : List α} {v : Value} (h : (w.alloc o).grownBy w1 (some w.heap.size)) (hd : Sli R w (fun b => b < w.heap.size) l v) : Sli R w1 (fun b => b < w.heap.size) l v :=
  hd.keep fun b hb => (h.block b (by simp; omega) (by simp; omega)).trans (Below.heap_alloc w o b hb)

set_option maxRecDepth 100000 in
set_option maxHeartbeats 8000000 in
theorem TakeFiles_c (A : Option Addr) (l : List Int) (c : Nat) (A2 : Option Addr) (data : List ByteArray) (c2 : Nat) (w : World) (hr : Rs w 0 w.heap.size 1 intc A l) (hl : l.length ≤ 17592186044416) (ho : ∀ x ∈ l, okI x)
    (hr2 : Sli strR w (fun b => b < w.heap.size) data (.slice A2 data.length c2)) (hl2 : data.length ≤ 8796093021952) (ho2 : ∀ x ∈ data, x.size ≤ 140737488355328) (ht : TzLaid w) :
    Calls Tryd.prog 3 #[.slice A l.length c, .slice A2 data.length c2] w fun e w' => e = .returned (.bool true) ∧ Below w.heap.size w w' := by
  have S0 := Lib.hid (strNew w A l c hr hl ho)
  have HD := Lib.hid hr2
  have HO := Lib.hid ho2
  have HT := Lib.hid ht
  clear hr ho hr2 ho2 ht
  go_enter Tryd.func3, Tryd.ntmps3
  go_wp2
  go_loopw [28] (fun i wr => ∃ k : Nat, k ≤ data.length ∧ i = .int .i64 k ∧ Hid (Str wr w.heap.size 0) ∧ Hid ((w.alloc (.cells #[.slice A l.length c, .int .i64 0] 26)).grownBy wr (some w.heap.size))) (fun i _ => data.length - (intOf i).toNat)
  case atStart => exact ⟨0, Nat.zero_le _, rfl, S0.out, gRefl _ _⟩
  case round =>
    obtain ⟨k, hk, rfl, S, G⟩ := hrel
    clear S0
    by_cases hlt : k < data.length
    · obtain ⟨b, off, rfl, hfb, c0⟩ := strAt (gSli G.out HD.out) k hlt
      have hx := HO.out data[k] (List.getElem_mem hlt)
      generalize data[k] = x at *
      go_wp2_with fail
      refine (Digest_c x _ hx (tz_below HT.out (gEnd G.out) (Nat.le_refl _))).mono ?_
      rintro e w1 ⟨rfl, hb1⟩
      have S1 := Lib.hid (S.out.below hb1)
      have G1 := Lib.hid (gBelow G.out hb1)
      clear hb1 S G
      go_wp2_with fail
      refine (DigestOf_c x _ hx).mono ?_
      rintro e w2 ⟨rfl, hb2⟩
      have S2 := Lib.hid (S1.out.below hb2)
      have G2 := Lib.hid (gBelow G1.out hb2)
      clear hb2 S1 G1
      go_wp2
      go_roundw
      case rel => exact ⟨k + 1, by omega, intNum, S2.out, G2.out⟩
      case measure => simp [intOf]; omega
    · have hz0 := G.out.size
      simp at hz0
      go_wp2_with fail
      refine (FileNames_c w.heap.size 0 data.length _ S.out (by omega) hl2).mono ?_
      rintro e w1 ⟨v1, n1, rfl, ⟨names, hsl1, hsz1, hln1⟩, hn1, hs1, hg1⟩
      clear hk hlt
      have hz1 := hg1.size
      have S1 := Lib.hid hs1
      have G1 := Lib.hid (gTrans G.out hg1)
      have N1 := Lib.hid (hsl1.more (G := fun b => b ≠ w.heap.size ∧ b < w1.heap.size) (fun q hq => ⟨by omega, hq.2⟩))
      have D1 := Lib.hid ((gSli G1.out HD.out).more (G := fun b => b ≠ w.heap.size ∧ b < w1.heap.size) (fun q hq => ⟨by omega, by omega⟩))
      have NS := Lib.hid (show NamSz names from fun x hx => by have := hsz1 x hx; omega)
      have DS := Lib.hid (show NamSz data from HO.out)
      clear hs1 hg1 hsl1 hsz1 S G
      go_wp2_with fail
      refine (Manifest_c names data _ _ _ _ N1.out D1.out (fun b h => h.2) NS.out DS.out (by omega) (by omega) (tz_below HT.out (gEnd G1.out) (Nat.le_refl _))).mono ?_
      rintro e w2 ⟨v2, rfl, hm2, hb2⟩
      have hz2 := hb2.size
      have S2 := Lib.hid (S1.out.below hb2)
      have G2 := Lib.hid (gBelow G1.out hb2)
      have N2 := Lib.hid (N1.out.below hb2 (fun b h => h.2))
      have D2 := Lib.hid (D1.out.below hb2 (fun b h => h.2))
      have M2 := Lib.hid hm2
      clear hb2 hm2 S1 G1 N1 D1
      go_wp2_with fail
      refine (ManifestOf_c names data _ _ _ _ N2.out D2.out (fun b h => by have := h.2; omega) NS.out DS.out (by omega) (by omega)).mono ?_
      rintro e w3 ⟨v3, rfl, hm3, hb3⟩
      have hz3 := hb3.size
      have S3 := Lib.hid (S2.out.below hb3)
      have G3 := Lib.hid (gBelow G2.out hb3)
      have M3 := Lib.hid ((M2.out.below hb3 (fun b h => h.2)).more (G := fun b => b < w3.heap.size) (fun b h => by have := h.2; omega))
      have M4 := Lib.hid (hm3.more (G := fun b => b < w3.heap.size) (fun b h => h.2))
      clear hb3 hm3 S2 G2 N2 D2 M2 NS DS HD HO
      generalize manL names data = ml at *
      generalize manE names data = me at *
      clear hln1
      go_wp2_with fail
      refine (eqCop_c ml ml _ _ _ _ M3.out M4.out (fun b h => h)).mono ?_
      rintro e w4 ⟨rfl, hb4⟩
      have hz4 := hb4.size
      have S4 := Lib.hid (S3.out.below hb4)
      have G4 := Lib.hid (gBelow G3.out hb4)
      clear hb4 S3 G3 M3 M4
      go_wp2_with fail
      refine (Copies_c w.heap.size n1 _ S4.out (by omega)).mono ?_
      rintro e w5 ⟨v5, n5, rfl, ⟨a, ha5, hca, hla⟩, hn5, hs5, hg5⟩
      have hz5 := hg5.size
      have S5 := Lib.hid hs5
      have G5 := Lib.hid (gTrans G4.out hg5)
      have A5 := Lib.hid (ha5.more (G := fun b => b ≠ w.heap.size ∧ b < w5.heap.size) (fun q hq => ⟨by omega, hq.2⟩))
      have CA := Lib.hid hca
      clear hs5 hg5 ha5 hca S4 G4
      go_wp2_with fail
      refine (Copies_c w.heap.size n5 _ S5.out (by omega)).mono ?_
      rintro e w6 ⟨v6, n6, rfl, ⟨b, hb6, hcb, hlb⟩, hn6, hs6, hg6⟩
      have hz6 := hg6.size
      have G6 := Lib.hid (gTrans G5.out hg6)
      have A6 := Lib.hid ((A5.out.grown hg6 (fun b h => ⟨h.2, h.1⟩)).more (G := fun b => b < w6.heap.size) (fun b h => by have := h.2; omega))
      have B6 := Lib.hid (hb6.more (G := fun b => b < w6.heap.size) (fun q hq => hq.2))
      have CB := Lib.hid hcb
      clear hs6 hg6 hb6 hcb S5 G5 A5
      go_wp2_with fail
      refine (Compare_c a b _ _ _ _ A6.out B6.out (fun b h => h) CA.out CB.out).mono ?_
      rintro e w7 ⟨x7, y7, z7, rfl, hx7, hy7, hq7, hb7⟩
      have hz7 := hb7.size
      have G7 := Lib.hid (gBelow G6.out hb7)
      have A7 := Lib.hid (A6.out.below hb7 (fun b h => h))
      have B7 := Lib.hid (B6.out.below hb7 (fun b h => h))
      have X7 := Lib.hid hx7
      have Y7 := Lib.hid hy7
      have Z7 := Lib.hid hq7
      clear hb7 hx7 hy7 hq7 G6 A6 B6
      go_wp2_with fail
      refine (CompareOf_c a b _ _ _ _ A7.out B7.out (fun b h => by omega) CA.out CB.out).mono ?_
      rintro e w8 ⟨x8, y8, z8, rfl, hx8, hy8, hq8, hb8⟩
      have hz8 := hb8.size
      have G8 := Lib.hid (gBelow G7.out hb8)
      have X8 := Lib.hid ((X7.out.below hb8 (fun b h => h.2)).more (G := fun b => b < w8.heap.size) (fun b h => by have := h.2; omega))
      have Y8 := Lib.hid ((Y7.out.below hb8 (fun b h => h.2)).more (G := fun b => b < w8.heap.size) (fun b h => by have := h.2; omega))
      have Z8 := Lib.hid ((Z7.out.below hb8 (fun b h => h.2)).more (G := fun b => b < w8.heap.size) (fun b h => by have := h.2; omega))
      have U8 := Lib.hid (hx8.more (G := fun b => b < w8.heap.size) (fun b h => h.2))
      have V8 := Lib.hid (hy8.more (G := fun b => b < w8.heap.size) (fun b h => h.2))
      have W8 := Lib.hid (hq8.more (G := fun b => b < w8.heap.size) (fun b h => h.2))
      clear hb8 hx8 hy8 hq8 G7 A7 B7 X7 Y7 Z7 CA CB
      generalize lostQ a b (cmpE a b) = lx at *
      generalize spoiltQ a b (cmpE a b) = ly at *
      generalize lostQ b a (cmpE a b) = lz at *
      generalize cmpE a b = ce at *
      go_wp2_with fail
      refine (takes_c _).mono ?_
      rintro e w9 ⟨rfl, hb9⟩
      have hz9 := hb9.size
      have G9 := Lib.hid (gBelow G8.out hb9)
      have X9 := Lib.hid (X8.out.below hb9 (fun b h => h))
      have Y9 := Lib.hid (Y8.out.below hb9 (fun b h => h))
      have Z9 := Lib.hid (Z8.out.below hb9 (fun b h => h))
      have U9 := Lib.hid (U8.out.below hb9 (fun b h => h))
      have V9 := Lib.hid (V8.out.below hb9 (fun b h => h))
      have W9 := Lib.hid (W8.out.below hb9 (fun b h => h))
      clear hb9 G8 X8 Y8 Z8 U8 V8 W8
      go_wp2_with fail
      refine (eqStr_c lx lx _ _ _ _ X9.out U9.out (fun b h => by omega)).mono ?_
      rintro e w10 ⟨rfl, hb10⟩
      have hz10 := hb10.size
      have G10 := Lib.hid (gBelow G9.out hb10)
      have Y10 := Lib.hid (Y9.out.below hb10 (fun b h => by omega))
      have Z10 := Lib.hid (Z9.out.below hb10 (fun b h => by omega))
      have V10 := Lib.hid (V9.out.below hb10 (fun b h => by omega))
      have W10 := Lib.hid (W9.out.below hb10 (fun b h => by omega))
      clear hb10 G9 X9 Y9 Z9 U9 V9 W9
      go_wp2_with fail
      refine (eqStr_c ly ly _ _ _ _ Y10.out V10.out (fun b h => by omega)).mono ?_
      rintro e w11 ⟨rfl, hb11⟩
      have hz11 := hb11.size
      have G11 := Lib.hid (gBelow G10.out hb11)
      have Z11 := Lib.hid (Z10.out.below hb11 (fun b h => by omega))
      have W11 := Lib.hid (W10.out.below hb11 (fun b h => by omega))
      clear hb11 G10 Y10 Z10 V10 W10
      go_wp2_with fail
      refine (eqStr_c lz lz _ _ _ _ Z11.out W11.out (fun b h => by omega)).mono ?_
      rintro e w12 ⟨rfl, hb12⟩
      have G12 := Lib.hid (gBelow G11.out hb12)
      clear hb12 G11 Z11 W11
      go_wp2
      go_ret
      exact ⟨ret_bool (by simp), gEnd G12.out⟩
end Go.Proofs.YtnjbbkocobegiaaDoor
