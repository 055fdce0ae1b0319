/- Texts packed: RtT, RlB, TpD, GenK. -/
import Derived.Test.YtihkkaeoijheoaaGreatDoorTt18
import Derived.Test.YtihkkaeoijheoaaGreatDoorTt38
import Derived.Test.YtihkkaeoijheoaaGreatDoorTt37
import Derived.Test.YtihkkaeoijheoaaGreatDoorTt02
import Derived.Test.YtihkkaeoijheoaaGreatDoorTt27
import Derived.Deep.DeepCutAuto
import Derived.Test.YtihkkaeoijheoaaGreatDoorTt12
import Derived.Test.YtihkkaeoijheoaaGreatDoorTt01
import Derived.Test.YtihkkaeoijheoaaGreatDoorTt07
import Derived.Test.YtihkkaeoijheoaaGreatDoorTt35
import Derived.Test.YtihkkaeoijheoaaGreatDoorTt33
import Derived.Test.YtihkkaeoijheoaaGreatDoorTt03
/- A script's text, read, is the script. No program in sight. -/
namespace Go.Proofs.YtihkkaeoijheoaaGreatDoor
set_option linter.unusedVariables false
open Go.RowKit

theorem index_app {c : UInt8} (a b : List UInt8) (h : ∀ x ∈ a, x ≠ c) : Lib.index (a ++ c :: b) [c] = a.length := by
  induction a with
  | nil => rw [List.nil_append, Lib.index]; simp [List.isPrefixOf]
  | cons x r ih =>
    have hp : ([c] : List UInt8).isPrefixOf (x :: (r ++ c :: b)) = false := by simp [List.isPrefixOf, Ne.symm (h x (by simp))]
    rw [List.cons_append, Lib.index, hp, ih fun y hy => h y (by simp [hy])]
    have hne : ¬ ((r.length : Int) == -1) = true := fun e => by have := beq_iff_eq.1 e; omega
    simp only [Bool.false_eq_true, if_false, if_neg hne, List.length_cons]
    omega
theorem words_next {c : UInt8} (a : ByteArray) (b : List UInt8) (h : ∀ x ∈ a.data.toList, x ≠ c) : words ⟨(a.data.toList ++ c :: b).toArray⟩ c = a :: words ⟨b.toArray⟩ c := by
  have hl : a.data.toList.length = a.size := by simp
  have hsz : (⟨(a.data.toList ++ c :: b).toArray⟩ : ByteArray).size = a.size + 1 + b.length := by
    show (a.data.toList ++ c :: b).toArray.size = _
    simp
    omega
  have hix : Lib.indexB ⟨(a.data.toList ++ c :: b).toArray⟩ ⟨#[c]⟩ = ((a.size : Nat) : Int) := by
    show Lib.index (a.data.toList ++ c :: b).toArray.toList [c] = _
    rw [← hl]
    exact index_app _ _ h
  have e1 : (⟨(a.data.toList ++ c :: b).toArray⟩ : ByteArray).extract 0 (a.size + 0) = a := by
    apply ba_ext
    rw [extract_list']
    simp [hl]
  have e2 : (⟨(a.data.toList ++ c :: b).toArray⟩ : ByteArray).extract (a.size + (⟨#[c]⟩ : ByteArray).size) (⟨(a.data.toList ++ c :: b).toArray⟩ : ByteArray).size = ⟨b.toArray⟩ := by
    apply ba_ext
    rw [extract_list', hsz, show (⟨#[c]⟩ : ByteArray).size = 1 from rfl]
    show ((a.data.toList ++ c :: b).drop _).take _ = b
    rw [show a.data.toList ++ c :: b = (a.data.toList ++ [c]) ++ b by simp, List.drop_left' (by simp), List.take_of_length_le (by omega)]
  have hc := Lib.countB_hit ⟨(a.data.toList ++ c :: b).toArray⟩ ⟨#[c]⟩ a.size (Nat.le_refl 1) hix
  rw [e2, Nat.add_comm] at hc
  unfold words
  rw [hc, Lib.splitB_hit _ 0 _ _ a.size hix, e1, e2]
def joinL (l : List ByteArray) : List UInt8 := l.flatMap fun s => s.data.toList ++ [10]
theorem words_join (l : List ByteArray) (h : ∀ s ∈ l, ∀ x ∈ s.data.toList, x ≠ 10) : words ⟨(joinL l).toArray⟩ 10 = l ++ [⟨#[]⟩] := by
  induction l with
  | nil => rfl
  | cons a r ih =>
    have e : joinL (a :: r) = a.data.toList ++ 10 :: joinL r := by unfold joinL; simp
    rw [e, words_next a _ (h a (by simp)), ih fun s hs => h s (by simp [hs])]
    rfl
theorem joinL_app (a b : List ByteArray) : joinL (a ++ b) = joinL a ++ joinL b := by unfold joinL; simp
theorem joinL_flat {α : Type} (f : α → List ByteArray) (l : List α) : joinL (l.flatMap f) = l.flatMap fun x => joinL (f x) := by
  induction l with
  | nil => rfl
  | cons a r ih => rw [List.flatMap_cons, List.flatMap_cons, joinL_app, ih]
/-- The lines of a script. -/
def paraLn (p : Para) : List ByteArray := (if p.kind = 1 ∨ p.kind = 5 ∨ p.kind = 2 then [⟨#[]⟩] else []) ++ [lineS p]
def sceneLn (x : Scene) : List ByteArray := [⟨#[]⟩, ⟨#[35, 32]⟩ ++ headS x] ++ x.paras.flatMap paraLn
def scriptLn (x : Script) : List ByteArray := (⟨#[116, 105, 116, 108, 101, 58, 32]⟩ ++ x.title) :: x.scenes.flatMap sceneLn
theorem join_para (p : Para) : joinL (paraLn p) = paraT p := by
  unfold paraLn paraT
  rw [joinL_app]
  split <;> simp [joinL]
theorem join_scene (x : Scene) : joinL (sceneLn x) = sceneT x := by
  unfold sceneLn sceneT
  rw [joinL_app, joinL_flat]
  simp only [join_para]
  simp [joinL]
theorem join_script (x : Script) : joinL (scriptLn x) = textT x := by
  unfold scriptLn textT
  rw [show (⟨#[116, 105, 116, 108, 101, 58, 32]⟩ ++ x.title) :: x.scenes.flatMap sceneLn = [⟨#[116, 105, 116, 108, 101, 58, 32]⟩ ++ x.title] ++ x.scenes.flatMap sceneLn from rfl, joinL_app, joinL_flat]
  simp only [join_scene]
  simp [joinL]

/-! Nothing in a line is a line feed. -/
theorem plain_ten {s : ByteArray} (h : plainB s = true) : ∀ x ∈ s.data.toList, x ≠ 10 := fun x hx e => by
  subst e
  unfold plainB allB at h
  simp only [Bool.and_eq_true] at h
  have := List.all_eq_true.1 h.1 10 hx
  revert this; decide
theorem numB_ten {s : ByteArray} (h : numB s = true) : ∀ x ∈ s.data.toList, x ≠ 10 := fun x hx e => by
  subst e
  unfold numB at h
  simp only [Bool.and_eq_true] at h
  obtain ⟨⟨⟨h1, _⟩, _⟩, _⟩ := h
  obtain ⟨t, ht⟩ := List.takeWhile_prefix digB (l := s.data.toList)
  have hd : s.data.toList.drop (numK s) = t := by
    unfold numK
    have h3 : (s.data.toList.takeWhile digB ++ t).drop (s.data.toList.takeWhile digB).length = t := List.drop_left' rfl
    rw [ht] at h3
    exact h3
  rw [← ht] at hx
  rcases List.mem_append.1 hx with hx | hx
  · have h2 : digB 10 = true := List.all_eq_true.1 List.all_takeWhile 10 hx
    revert h2; decide
  · rw [← hd] at hx
    have h2 := List.all_eq_true.1 h1 10 hx
    revert h2; decide
theorem setB_ten {s : ByteArray} (h : setB s = true) : ∀ x ∈ s.data.toList, x ≠ 10 := by
  unfold setB proB at h
  simp only [Bool.and_eq_true] at h
  exact plain_ten h.1.1.1.2
theorem placeS_ten : ∀ q : Nat, ∀ x ∈ (placeS q).data.toList, x ≠ 10
  | 0 => by decide
  | 1 => by decide
  | 2 => by decide
  | 3 => by decide
  | q + 4 => by show ∀ x ∈ (⟨#[]⟩ : ByteArray).data.toList, x ≠ 10; decide
theorem timeS_ten : ∀ q : Nat, ∀ x ∈ (timeS q).data.toList, x ≠ 10
  | 0 => by decide
  | 1 => by decide
  | 2 => by decide
  | 3 => by decide
  | 4 => by decide
  | 5 => by decide
  | q + 6 => by show ∀ x ∈ (⟨#[]⟩ : ByteArray).data.toList, x ≠ 10; decide
theorem app_ten {a b : ByteArray} (ha : ∀ x ∈ a.data.toList, x ≠ 10) (hb : ∀ x ∈ b.data.toList, x ≠ 10) : ∀ x ∈ (a ++ b).data.toList, x ≠ 10 := fun x hx => by
  rw [show (a ++ b).data.toList = a.data.toList ++ b.data.toList by simp] at hx
  rcases List.mem_append.1 hx with hx | hx
  · exact ha x hx
  · exact hb x hx
theorem head_ten {x : Scene} (h : okS x) : ∀ c ∈ (headS x).data.toList, c ≠ 10 := by
  have h1 := app_ten (app_ten (app_ten (app_ten (placeS_ten x.place.toNat) (b := ⟨#[32]⟩) (by decide)) (setB_ten h.2.2.2.1)) (b := ⟨#[32, 45, 32]⟩) (by decide)) (timeS_ten x.time.toNat)
  unfold headS
  split
  · exact h1
  · rename_i h0
    exact app_ten (app_ten (numB_ten (h.1.resolve_left h0)) (b := ⟨#[32]⟩) (by decide)) h1
theorem esc_ten {s b : ByteArray} (h : ∀ x ∈ s.data.toList, x ≠ 10) : ∀ x ∈ (escS s b).data.toList, x ≠ 10 := by
  unfold escS
  split
  · exact h
  · split
    · exact app_ten (a := ⟨#[92]⟩) (by decide) h
    · exact h
theorem line_ten {p : Para} (h : plainB p.text = true) : ∀ x ∈ (lineS p).data.toList, x ≠ 10 := by
  have ht := plain_ten h
  unfold lineS
  split
  · exact app_ten (a := ⟨#[64]⟩) (by decide) ht
  · split
    · exact app_ten (app_ten (a := ⟨#[40]⟩) (by decide) ht) (b := ⟨#[41]⟩) (by decide)
    · split
      · exact esc_ten ht
      · split
        · exact app_ten (a := ⟨#[62, 32]⟩) (by decide) ht
        · exact esc_ten ht
theorem script_ten {x : Script} (h : OkX x) : ∀ s ∈ scriptLn x, ∀ c ∈ s.data.toList, c ≠ 10 := fun s hs => by
  unfold scriptLn at hs
  rcases List.mem_cons.1 hs with rfl | hs
  · exact app_ten (a := ⟨#[116, 105, 116, 108, 101, 58, 32]⟩) (by decide) (plain_ten h.tp)
  · obtain ⟨y, hy, hs⟩ := List.mem_flatMap.1 hs
    have hok := h.sc y hy
    unfold sceneLn at hs
    rcases List.mem_append.1 hs with hs | hs
    · rcases List.mem_cons.1 hs with rfl | hs
      · decide
      · rw [List.mem_singleton] at hs
        subst hs
        exact app_ten (a := ⟨#[35, 32]⟩) (by decide) (head_ten hok)
    · obtain ⟨p, hp, hs⟩ := List.mem_flatMap.1 hs
      have hpe := parasE_ok _ _ hok.2.2.2.2 p hp
      unfold paraLn at hs
      rcases List.mem_append.1 hs with hs | hs
      · split at hs
        · rw [List.mem_singleton] at hs; subst hs; decide
        · cases hs
      · rw [List.mem_singleton] at hs
        subst hs
        exact line_ten (paraE_sz hpe).2.2.1

/-! Line by line. -/
/-- Lines that take what has come to something else, wherever they stand. -/
def Runs (r : Rd) (l : List ByteArray) (r' : Rd) : Prop := ∀ (k : Nat) (m : List ByteArray), ∃ j, linesR k r (l ++ m) = linesR j r' m
theorem Runs.nil (r : Rd) : Runs r [] r := fun k m => ⟨k, rfl⟩
theorem Runs.one {r r' : Rd} {s : ByteArray} (h : lineR r s = some r') : Runs r [s] r' := fun k m => ⟨k + 1, by
  show linesR k r (s :: m) = _
  rw [linesR, h]⟩
theorem Runs.app {r r' r'' : Rd} {a b : List ByteArray} (h : Runs r a r') (h' : Runs r' b r'') : Runs r (a ++ b) r'' := fun k m => by
  obtain ⟨j, hj⟩ := h k (b ++ m)
  obtain ⟨i, hi⟩ := h' j m
  exact ⟨i, by rw [List.append_assoc, hj, hi]⟩
theorem empty_runs {t : ByteArray} {sc : List Scene} {wh : Int} (h : wh = 3 ∨ wh = 4) : Runs ⟨t, sc, wh⟩ [⟨#[]⟩] ⟨t, sc, 2⟩ := Runs.one (by
  unfold lineR
  rw [if_pos (show (⟨#[]⟩ : ByteArray).size = 0 from rfl)]
  dsimp only
  rw [if_neg (by omega), if_neg (by omega)])
theorem empty_first {t : ByteArray} : Runs ⟨t, [], 0⟩ [⟨#[]⟩] ⟨t, [], 1⟩ := Runs.one rfl
theorem modify_last {α : Type} (f : α → α) (y : α) : ∀ d : List α, (d ++ [y]).modify d.length f = d ++ [f y]
  | [] => rfl
  | a :: d => by
    have := modify_last f y d
    simp [this]
theorem addTo_last (d : List Scene) (y : Scene) (p : Para) : addTo (d ++ [y]) p = d ++ [addPara p y] := by
  unfold addTo
  rw [show (d ++ [y]).length - 1 = d.length by simp]
  exact modify_last _ y d
theorem ba_cons {s : ByteArray} (h : 0 < s.size) : ∃ c r, s.data.toList = c :: r := by
  rcases s with ⟨⟨l⟩⟩
  cases l with
  | nil => exact absurd h (by show ¬ 0 < 0; omega)
  | cons c r => exact ⟨c, r, rfl⟩
theorem ext_app (a s : ByteArray) : (a ++ s).extract a.size (a ++ s).size = s := by
  apply ba_ext
  rw [extract_list', show (a ++ s).data.toList = a.data.toList ++ s.data.toList by simp, List.drop_left' (by simp), List.take_of_length_le (by rw [ByteArray.size_append]; simp)]
theorem byte_app (c : UInt8) (r : List UInt8) (s : ByteArray) : byteAt (⟨⟨c :: r⟩⟩ ++ s) 0 = c := by
  unfold byteAt
  rw [show ((⟨⟨c :: r⟩⟩ : ByteArray) ++ s).data.toList = (c :: r) ++ s.data.toList by simp]
  rfl
theorem byte_at1 (c d : UInt8) (r : List UInt8) (s : ByteArray) (h : s.data.toList = d :: r) : byteAt (⟨#[c]⟩ ++ s) 1 = d := by
  unfold byteAt
  rw [show ((⟨#[c]⟩ : ByteArray) ++ s).data.toList = [c] ++ s.data.toList by simp, h]
  rfl
theorem pre_app (a s : ByteArray) : Lib.hasPrefix (a ++ s).data.toList a.data.toList = true := by
  unfold Lib.hasPrefix
  rw [show (a ++ s).data.toList = a.data.toList ++ s.data.toList by simp]
  exact List.isPrefixOf_iff_prefix.2 ⟨_, rfl⟩
/-- A line with text escaped: what its first byte is, and the text behind a backslash. -/
theorem esc_cases {s : ByteArray} {m : List UInt8} (h : 0 < s.size) : (escS s ⟨⟨m⟩⟩ = ⟨#[92]⟩ ++ s ∧ marked (⟨#[92]⟩ ++ s) m = true) ∨ (escS s ⟨⟨m⟩⟩ = s ∧ ¬ byteAt s 0 ∈ m) := by
  obtain ⟨c, r, hc⟩ := ba_cons h
  have hb : byteAt s 0 = c := by unfold byteAt; rw [hc]; rfl
  by_cases hm : c ∈ m
  · refine .inl ⟨?_, ?_⟩
    · unfold escS
      rw [hc]
      exact if_pos hm
    · unfold marked
      rw [byte_at1 92 c r s hc, ByteArray.size_append, show (⟨#[92]⟩ : ByteArray).size = 1 from rfl]
      rw [decide_eq_true (by omega)]
      simpa using hm
  · refine .inr ⟨?_, by rw [hb]; exact hm⟩
    unfold escS
    rw [hc]
    exact if_neg hm
theorem saidLine {t : ByteArray} {sc : List Scene} {s : ByteArray} (h : ¬ s.size = 0) : lineR ⟨t, sc, 4⟩ s = saidR ⟨t, sc, 4⟩ s := by
  unfold lineR; rw [if_neg h]; dsimp only; rw [if_pos rfl]
theorem beginsLine {t : ByteArray} {sc : List Scene} {wh : Int} {s : ByteArray} (h : ¬ s.size = 0) (hw : wh = 1 ∨ wh = 2) : lineR ⟨t, sc, wh⟩ s = beginsR ⟨t, sc, wh⟩ s := by
  unfold lineR; rw [if_neg h]; dsimp only; rw [if_neg (by omega), if_pos hw]
theorem para_runs (t : ByteArray) (d : List Scene) (y : Scene) (p : Para) (last : Int) (hp : paraE p = 0) (hf : followsB p.kind last = true) : Runs ⟨t, d ++ [y], whOf last⟩ (paraLn p) ⟨t, d ++ [addPara p y], whOf p.kind⟩ := by
  obtain ⟨h0, _, _, k1, k5⟩ := paraE_sz hp
  have hw : whOf last = 3 ∨ whOf last = 4 := by unfold whOf; split <;> omega
  have hadd : (⟨t, d ++ [y], whOf last⟩ : Rd).add p = ⟨t, d ++ [addPara p y], whOf p.kind⟩ := by unfold Rd.add; rw [addTo_last]
  have hadd2 : (⟨t, d ++ [y], 2⟩ : Rd).add p = ⟨t, d ++ [addPara p y], whOf p.kind⟩ := by unfold Rd.add; rw [addTo_last]
  obtain ⟨kind, s⟩ := p
  dsimp only at *
  unfold paraLn
  dsimp only
  by_cases g : kind = 1 ∨ kind = 5 ∨ kind = 2
  · rw [if_pos g]
    refine (empty_runs hw).app (Runs.one ?_)
    rcases g with g | g | g
    · subst g
      have hl : lineS ⟨1, s⟩ = escS s ⟨⟨[64, 62, 35, 92]⟩⟩ := rfl
      rw [hl]
      rcases esc_cases (m := [64, 62, 35, 92]) h0 with ⟨e, hm⟩ | ⟨e, hm⟩
      · rw [e, beginsLine (by rw [ByteArray.size_append]; omega) (.inr rfl)]
        unfold beginsR
        rw [byte_app 92 [] s, if_neg (by decide)]
        dsimp only
        rw [if_neg (by decide), if_neg (by decide), if_neg (by decide), if_pos rfl, if_pos hm]
        rw [show (⟨#[92]⟩ ++ s : ByteArray).extract 1 (⟨#[92]⟩ ++ s : ByteArray).size = s from ext_app ⟨#[92]⟩ s, hadd2]
      · rw [e, beginsLine (by omega) (.inr rfl)]
        simp only [List.mem_cons, List.not_mem_nil, or_false, not_or] at hm
        unfold beginsR
        dsimp only
        rw [if_neg hm.2.2.1, if_neg (by decide), if_neg hm.1, if_neg hm.2.1, if_neg hm.2.2.2, hadd2]
    · subst g
      have hl : lineS ⟨5, s⟩ = ⟨#[62, 32]⟩ ++ s := rfl
      rw [hl, beginsLine (by rw [ByteArray.size_append]; omega) (.inr rfl)]
      unfold beginsR
      rw [byte_app 62 [32] s, if_neg (by decide)]
      dsimp only
      rw [if_neg (by decide), if_neg (by decide), if_pos rfl, if_pos ⟨pre_app ⟨#[62, 32]⟩ s, by rw [ByteArray.size_append, show (⟨#[62, 32]⟩ : ByteArray).size = 2 from rfl]; omega⟩]
      rw [show (⟨#[62, 32]⟩ ++ s : ByteArray).extract 2 (⟨#[62, 32]⟩ ++ s : ByteArray).size = s from ext_app ⟨#[62, 32]⟩ s, hadd2]
    · subst g
      have hl : lineS ⟨2, s⟩ = ⟨#[64]⟩ ++ s := rfl
      have hn : nameB s = true := by
        cases hb : nameB s with
        | true => rfl
        | false =>
          exfalso
          unfold paraE at hp
          dsimp only at hp
          split at hp
          · omega
          · split at hp
            · omega
            · split at hp
              · omega
              · rw [if_pos ⟨rfl, hb⟩] at hp; omega
      rw [hl, beginsLine (by rw [ByteArray.size_append]; omega) (.inr rfl)]
      unfold beginsR
      rw [byte_app 64 [] s, if_neg (by decide)]
      dsimp only
      rw [if_neg (by decide), if_pos rfl, show (⟨#[64]⟩ ++ s : ByteArray).extract 1 (⟨#[64]⟩ ++ s : ByteArray).size = s from ext_app ⟨#[64]⟩ s, if_pos hn, hadd2]
  · rw [if_neg g, List.nil_append]
    have hk : kind = 3 ∨ kind = 4 := by omega
    have hw4 : whOf last = 4 := by
      unfold followsB at hf
      unfold whOf
      rcases hk with hk | hk
      · subst hk
        rw [if_pos rfl] at hf
        simp only [Bool.or_eq_true, decide_eq_true_eq] at hf
        rw [if_pos (by omega)]
      · subst hk
        rw [if_neg (by decide), if_pos rfl] at hf
        simp only [Bool.or_eq_true, decide_eq_true_eq] at hf
        rw [if_pos (by omega)]
    rw [hw4] at hadd ⊢
    refine Runs.one ?_
    rcases hk with hk | hk
    · subst hk
      have hl : lineS ⟨3, s⟩ = ⟨#[40]⟩ ++ s ++ ⟨#[41]⟩ := rfl
      have hz : (⟨#[40]⟩ ++ s ++ ⟨#[41]⟩ : ByteArray).size = s.size + 2 := by
        rw [ByteArray.size_append, ByteArray.size_append, show (⟨#[40]⟩ : ByteArray).size = 1 from rfl, show (⟨#[41]⟩ : ByteArray).size = 1 from rfl]; omega
      have hsf : Lib.hasSuffix (⟨#[40]⟩ ++ s ++ ⟨#[41]⟩ : ByteArray).data.toList (⟨#[41]⟩ : ByteArray).data.toList = true := by
        unfold Lib.hasSuffix
        rw [show (⟨#[40]⟩ ++ s ++ ⟨#[41]⟩ : ByteArray).data.toList = ([40] ++ s.data.toList) ++ (⟨#[41]⟩ : ByteArray).data.toList by simp]
        exact List.isSuffixOf_iff_suffix.2 ⟨_, rfl⟩
      have hex : (⟨#[40]⟩ ++ s ++ ⟨#[41]⟩ : ByteArray).extract 1 ((⟨#[40]⟩ ++ s ++ ⟨#[41]⟩ : ByteArray).size - 1) = s := by
        apply ba_ext
        rw [extract_list', hz, show (⟨#[40]⟩ ++ s ++ ⟨#[41]⟩ : ByteArray).data.toList = [40] ++ (s.data.toList ++ [41]) by simp, List.drop_left' (by simp), show s.size + 2 - 1 - 1 = s.data.toList.length by simp]
        simp
      have hb0 : byteAt (⟨#[40]⟩ ++ s ++ ⟨#[41]⟩) 0 = 40 := by rw [ByteArray.append_assoc]; exact byte_app 40 [] _
      rw [hl, saidLine (by omega)]
      unfold saidR
      rw [hb0, if_pos rfl, if_pos ⟨hsf, by omega⟩, hex, hadd]
    · subst hk
      have hl : lineS ⟨4, s⟩ = escS s ⟨⟨[40, 92]⟩⟩ := rfl
      rw [hl]
      rcases esc_cases (m := [40, 92]) h0 with ⟨e, hm⟩ | ⟨e, hm⟩
      · rw [e, saidLine (by rw [ByteArray.size_append]; omega)]
        unfold saidR
        rw [byte_app 92 [] s, if_neg (by decide), if_pos rfl, if_pos hm]
        rw [show (⟨#[92]⟩ ++ s : ByteArray).extract 1 (⟨#[92]⟩ ++ s : ByteArray).size = s from ext_app ⟨#[92]⟩ s, hadd]
      · rw [e, saidLine (by omega)]
        simp only [List.mem_cons, List.not_mem_nil, or_false, not_or] at hm
        unfold saidR
        rw [if_neg hm.1, if_neg hm.2, hadd]
theorem paras_runs (t : ByteArray) (d : List Scene) : ∀ (l : List Para) (y : Scene) (last : Int), parasE last l = 0 → ∃ wh, (wh = 3 ∨ wh = 4) ∧ Runs ⟨t, d ++ [y], whOf last⟩ (l.flatMap paraLn) ⟨t, d ++ [{ y with paras := y.paras ++ l }], wh⟩
  | [], y, last, _ => ⟨whOf last, by unfold whOf; split <;> omega, by rw [List.append_nil]; exact Runs.nil _⟩
  | p :: r, y, last, h => by
    rw [parasE] at h
    by_cases h1 : paraE p = 0
    · rw [if_neg (by rw [h1]; decide)] at h
      by_cases h2 : followsB p.kind last = false
      · rw [if_pos h2] at h; cases h
      · rw [if_neg h2] at h
        obtain ⟨wh, hw, hr⟩ := paras_runs t d r (addPara p y) p.kind h
        refine ⟨wh, hw, ?_⟩
        rw [List.flatMap_cons]
        have hr2 := (para_runs t d y p last h1 (by simpa using h2)).app hr
        rw [show ({ addPara p y with paras := (addPara p y).paras ++ r } : Scene) = { y with paras := y.paras ++ p :: r } by unfold addPara; simp] at hr2
        exact hr2
    · rw [if_pos h1] at h; exact absurd h h1
theorem scene_runs (t : ByteArray) (d : List Scene) (x : Scene) (wh : Int) (hx : okS x) (hw : wh = 1 ∨ wh = 2) : ∃ wh', (wh' = 3 ∨ wh' = 4) ∧ Runs ⟨t, d, wh⟩ ([⟨#[35, 32]⟩ ++ headS x] ++ x.paras.flatMap paraLn) ⟨t, d ++ [x], wh'⟩ := by
  obtain ⟨wh', hw', hr⟩ := paras_runs t d x.paras { x with paras := [] } 0 hx.2.2.2.2
  refine ⟨wh', hw', Runs.app (Runs.one ?_) hr⟩
  rw [beginsLine (by rw [ByteArray.size_append, show (⟨#[35, 32]⟩ : ByteArray).size = 2 from rfl]; omega) hw]
  unfold beginsR
  rw [byte_app 35 [32] (headS x), if_pos rfl, if_pos (pre_app ⟨#[35, 32]⟩ _), show (⟨#[35, 32]⟩ ++ headS x : ByteArray).extract 2 (⟨#[35, 32]⟩ ++ headS x : ByteArray).size = headS x from ext_app ⟨#[35, 32]⟩ _, head_back x hx]
  rfl
theorem scenes_runs (t : ByteArray) : ∀ (l d : List Scene) (wh : Int), (∀ x ∈ l, okS x) → (wh = 0 ∧ d = [] ∨ wh = 3 ∨ wh = 4) → ∃ wh', (wh' = 0 ∨ wh' = 3 ∨ wh' = 4) ∧ Runs ⟨t, d, wh⟩ (l.flatMap sceneLn) ⟨t, d ++ l, wh'⟩
  | [], d, wh, _, hw => ⟨wh, by omega, by rw [List.append_nil]; exact Runs.nil _⟩
  | x :: r, d, wh, h, hw => by
    have hempty : ∃ w2, (w2 = 1 ∨ w2 = 2) ∧ Runs ⟨t, d, wh⟩ [⟨#[]⟩] ⟨t, d, w2⟩ := by
      rcases hw with ⟨rfl, rfl⟩ | hw
      · exact ⟨1, .inl rfl, empty_first⟩
      · exact ⟨2, .inr rfl, empty_runs hw⟩
    obtain ⟨w2, hw2, h2⟩ := hempty
    obtain ⟨w3, hw3, h3⟩ := scene_runs t d x w2 (h x (by simp)) hw2
    obtain ⟨w4, hw4, h4⟩ := scenes_runs t r (d ++ [x]) w3 (fun y hy => h y (by simp [hy])) (.inr hw3)
    refine ⟨w4, hw4, ?_⟩
    rw [show List.flatMap sceneLn (x :: r) = [⟨#[]⟩] ++ ([⟨#[35, 32]⟩ ++ headS x] ++ x.paras.flatMap paraLn) ++ r.flatMap sceneLn by rw [List.flatMap_cons]; rfl, show d ++ x :: r = d ++ [x] ++ r by simp]
    exact (h2.app h3).app h4
theorem first_runs {x : Script} (h : OkX x) : ∃ wh, (wh = 0 ∨ wh = 3 ∨ wh = 4) ∧ firstR (scriptLn x) = .inl ⟨x.title, x.scenes, wh⟩ := by
  obtain ⟨wh, hw, hr⟩ := scenes_runs x.title x.scenes [] 0 h.sc (.inl ⟨rfl, rfl⟩)
  refine ⟨wh, hw, ?_⟩
  obtain ⟨j, hj⟩ := hr 1 []
  unfold firstR scriptLn
  dsimp only
  rw [if_pos (pre_app ⟨#[116, 105, 116, 108, 101, 58, 32]⟩ x.title), show (⟨#[116, 105, 116, 108, 101, 58, 32]⟩ ++ x.title : ByteArray).extract 7 (⟨#[116, 105, 116, 108, 101, 58, 32]⟩ ++ x.title : ByteArray).size = x.title from ext_app ⟨#[116, 105, 116, 108, 101, 58, 32]⟩ _]
  rw [List.append_nil] at hj
  rw [hj]
  rfl
/-- What is written is read back. -/
theorem read_back {x : Script} (h : chkE x = 0) (hs : ¬ 200000 < (textS x).size) : readS (textS x) = (x, 0, 0) := by
  have hok := chkE_ok h
  have hw : words (textS x) 10 = scriptLn x ++ [⟨#[]⟩] := by
    unfold textS
    rw [← join_script]
    exact words_join _ (script_ten hok)
  have hlen : (words (textS x) 10).length = (scriptLn x).length + 1 := by rw [hw]; simp
  obtain ⟨wh, hwh, hf⟩ := first_runs hok
  have h2 : firstR ((words (textS x) 10).take ((words (textS x) 10).length - 1)) = .inl ⟨x.title, x.scenes, wh⟩ := by
    rw [hlen, hw, Nat.add_sub_cancel, List.take_left' rfl]
    exact hf
  have h1 : 1 ≤ (scriptLn x).length := by unfold scriptLn; simp
  rw [readS_right hs h2]
  dsimp only
  have hlast : ((words (textS x) 10).getLast?.getD ⟨#[]⟩).size = 0 := by rw [hw]; simp; rfl
  rw [if_neg (by rintro (e | e | e | e); omega; exact e hlast; omega; omega), if_neg (by rw [h]; simp), if_neg (by simp)]
end Go.Proofs.YtihkkaeoijheoaaGreatDoor

/- The reference's lines of a script, walked. -/
namespace Go.Proofs.YtihkkaeoijheoaaGreatDoor
set_option linter.unusedVariables false
open Go.RowKit Go.Sort

def lnPre (t : ByteArray) (ls : List (Scene × Value)) (k : Nat) : List ByteArray := (⟨#[116, 105, 116, 108, 101, 58, 32]⟩ ++ t) :: (ls.take k).flatMap fun y => sceneLn y.1
theorem fm_next {α β : Type} (f : α → List β) (l : List α) (k : Nat) (hk : k < l.length) : (l.take (k + 1)).flatMap f = (l.take k).flatMap f ++ f l[k] := by
  rw [List.take_succ_eq_append_getElem hk, List.flatMap_append]
  simp
theorem paraLn_len (p : Para) : (paraLn p).length ≤ 2 := by unfold paraLn; split <;> simp
theorem paraLn_eq (p : Para) : paraLn p = (if nlB p = true then [⟨#[]⟩] else []) ++ [lineS p] := by
  unfold paraLn nlB
  by_cases h : p.kind = 1 ∨ p.kind = 5 ∨ p.kind = 2
  · rw [if_pos h, if_pos (decide_eq_true h)]
  · rw [if_neg h, if_neg (by simpa using h)]
theorem fm_len {α β : Type} (f : α → List β) (l : List α) (c : Nat) (h : ∀ x ∈ l, (f x).length ≤ c) : (l.flatMap f).length ≤ c * l.length := by
  induction l with
  | nil => simp
  | cons a r ih =>
    rw [List.flatMap_cons, List.length_append, List.length_cons, Nat.mul_add]
    have h1 := h a (by simp)
    have h2 := ih fun x hx => h x (by simp [hx])
    omega
theorem lnPre_len (t : ByteArray) (ls : List (Scene × Value)) (k M : Nat) (hp : ∀ y ∈ ls, y.1.paras.length ≤ M) : (lnPre t ls k).length ≤ 1 + (2 + 2 * M) * ls.length := by
  unfold lnPre
  rw [List.length_cons]
  have h := fm_len (fun y : Scene × Value => sceneLn y.1) (ls.take k) (2 + 2 * M) (fun y hy => by
    have h1 := fm_len paraLn y.1.paras 2 (fun p _ => paraLn_len p)
    have h2 := hp y (List.mem_of_mem_take hy)
    unfold sceneLn
    simp only [List.length_append, List.length_cons, List.length_nil]
    have : 2 * y.1.paras.length ≤ 2 * M := Nat.mul_le_mul_left _ h2
    omega)
  have h3 : (2 + 2 * M) * (ls.take k).length ≤ (2 + 2 * M) * ls.length := Nat.mul_le_mul_left _ (by rw [List.length_take]; omega)
  omega
/-- The list of texts so far, and the blocks beside it. -/
abbrev LnG (w : World) (l : List ByteArray) (v : Value) (P : List (Nat × Array Value × TypeId)) (wx : World) : Prop := BO strR 9 w l v P wx
def ScLnP (x : Script) (w : World) (e : Ending) (w' : World) : Prop := ∃ v', e = .returned v' ∧ Own strR w' w.heap.size w.heap.size 9 (scriptLn x) v' ∧ Below w.heap.size w w'
end Go.Proofs.YtihkkaeoijheoaaGreatDoor

/- The reference's text of takes, walked. -/
namespace Go.Proofs.YtihkkaeoijheoaaGreatDoor
set_option linter.unusedVariables false
open Go.RowKit Go.Sort

set_option maxHeartbeats 1600000 in
theorem orS_c (s : ByteArray) (B : Nat) (w : World) {T : TypeId} (h : w.heap[B]? = some (.cells #[.string s, .string ⟨#[45]⟩] T (0, 0))) :
    Calls Tryz.prog 104 #[.slice (some ⟨B, 0, none⟩) 2 2] w fun e w' => e = .returned (.string (sndWd s)) ∧ w = w' := by
  obtain ⟨y, _⟩ := str_cells h
  have y0 : w.cell? ⟨B, 0, none⟩ = some (.string s) := y 0
  have y1 : w.cell? ⟨B, 1, none⟩ = some (.string ⟨#[45]⟩) := y 1
  clear y h
  cases he : s.toList.isEmpty with
  | true =>
    have HV := Lib.hid (show sndWd s = ⟨#[45]⟩ from if_pos he)
    go_enter Tryz.func104, Tryz.ntmps104
    go_wp2
    go_loop [8, 5] (fun i _ => ∃ k : Nat, k ≤ 1 ∧ i = .int .i64 k) (fun i _ => 2 - (intOf i).toNat)
    case atStart => exact ⟨0, by omega, rfl⟩
    case round =>
      obtain ⟨k, hk, rfl⟩ := hrel
      by_cases hk0 : k = 0
      · subst hk0
        go_wp2
        go_round
        case rel => exact ⟨1, by omega, intNum⟩
        all_goals (try (simp [intOf] <;> omega))
      · obtain rfl : k = 1 := by omega
        go_wp2
        go_ret
        exact ⟨by rw [HV.out]; rfl, rfl⟩
  | false =>
    have HV := Lib.hid (show sndWd s = s from if_neg (by rw [he]; decide))
    go_enter Tryz.func104, Tryz.ntmps104
    go_wp2
    go_loop [8, 5] (fun i _ => i = .int .i64 0) (fun i _ => 2 - (intOf i).toNat)
    case atStart => rfl
    case round =>
      obtain rfl := hrel
      go_wp2
      go_ret
      exact ⟨by rw [HV.out]; rfl, rfl⟩
theorem slateA_S {sc se : ByteArray} {n : Nat} (h : slateE sc se (n : Int) = 0) : slateA sc se (n : Int) = slateS sc se n := by
  unfold slateA; rw [if_pos h]; simp
def tkPre (ls : List Tk) (k : Nat) : List ByteArray := takesLns (ls.take k)
theorem tkPre_next (l : List Tk) (k : Nat) (hk : k < l.length) : tkPre l (k + 1) = tkPre l k ++ [joinSp (takeWs l[k])] ++ l[k].covers.map fun c => joinSp (covWs c) := by
  unfold tkPre takesLns
  rw [fm_next takeLns l k hk, List.append_assoc]
  rfl
theorem tkPre_len (l : List Tk) (k M : Nat) (h : ∀ t ∈ l, t.covers.length ≤ M) : (tkPre l k).length ≤ (1 + M) * l.length := by
  have h1 := fm_len takeLns (l.take k) (1 + M) (fun t ht => by
    have := h t (List.mem_of_mem_take ht)
    show (_ :: _).length ≤ _
    rw [List.length_cons, List.length_map]; omega)
  exact Nat.le_trans h1 (Nat.mul_le_mul_left _ (by rw [List.length_take]; omega))
set_option maxRecDepth 100000 in
set_option maxHeartbeats 8000000 in
theorem TakesText_c {F : Nat → Prop} (tl : List (Tk × Value)) (v : Value) (w : World) (h : TkW w F tl v) (h0 : tksE (tl.map (·.1)) = 0) (hp : PowLaid w) :
    Calls Tryz.prog 25 #[v] w fun e w' => e = .returned (.string (takesX (tl.map (·.1)))) ∧ Below w.heap.size w w' := by
  obtain ⟨A, c, rfl, hlc, hcm⟩ := h.sli.form
  have HOK := Lib.hid (h.ok h0)
  have HH := Lib.hid h
  have HP := Lib.hid hp
  have hl3 : tl.length ≤ 3000 := HOK.out.1
  obtain ⟨i0, hi0, hz0, hz1, hz2⟩ := info_parts (show (Tryz.prog.info? 9).map (fun i => (i.zero, i.size, i.bytes)) = some (some (.string ⟨#[]⟩), 1, 16) by kernel_rfl)
  clear h hp h0
  obtain ⟨L, hL⟩ : ∃ L, tl.length = L := ⟨_, rfl⟩
  have HL := Lib.hid hL
  have HLN := Lib.hid (show ∀ k, (tkPre (tl.map (·.1)) k).length ≤ (1 + 300000) * 3000 from fun k => by
    refine Nat.le_trans (tkPre_len (tl.map (·.1)) k 300000 (fun t ht => by obtain ⟨x, hx, rfl⟩ := List.mem_map.1 ht; exact (HOK.out.2 x hx).2)) (Nat.mul_le_mul_left _ ?_)
    rw [List.length_map]; exact hl3)
  rw [hL] at HH hlc hl3 ⊢
  clear hL
  go_enter Tryz.func25, Tryz.ntmps25
  go_wp2
  go_loopw [3, 12] (fun v i wr => ∃ k : Nat, k ≤ L ∧ i = .int .i64 k ∧ Hid (LnG w (tkPre (tl.map (·.1)) k) v [] wr)) (fun _ i _ => L - (intOf i).toNat)
  case atStart => exact ⟨0, Nat.zero_le _, rfl, BO.start w⟩
  case round =>
    obtain ⟨k, hk, rfl, HG⟩ := hrel
    by_cases hlt : k < L
    · have hk2 : k < tl.length := by rw [HL.out]; exact hlt
      obtain ⟨b, off, rfl, hfb, c0, c1, c2, c3, c4, c5, c6, c7, c8⟩ := tkAt (HH.out.below HG.out.bel).sli k hk2
      have hmem := List.getElem_mem hk2
      have hcv := HH.out.cov _ hmem
      obtain ⟨q1, q2, q3, q4, q5⟩ := HH.out.bd _ hmem
      have hfe := (HOK.out.2 _ hmem).1
      obtain ⟨A8, cc8, h8, _, _⟩ := hcv.form
      rw [h8] at c8 hcv
      have hkm : k < (tl.map (·.1)).length := by rw [List.length_map]; exact hk2
      have hst := tkPre_next (tl.map (·.1)) k hkm
      have hgm : (tl.map (·.1))[k]'hkm = (tl[k]'hk2).1 := List.getElem_map ..
      rw [hgm] at hst
      have hle := HLN.out k
      have hbw : b < wr.heap.size := Nat.lt_of_lt_of_le (HH.out.lt b hfb) HG.out.size
      clear h8 hmem hgm hkm
      generalize (tl[k]'hk2).1 = x at *
      obtain ⟨pre, hpre⟩ : ∃ pre, tkPre (tl.map (·.1)) k = pre := ⟨_, rfl⟩
      rw [hpre] at hst hle HG
      obtain ⟨m, hm⟩ : ∃ m, pre.length = m := ⟨_, rfl⟩
      have HM := Lib.hid hm
      have hm9 : m ≤ 1000000000 := by omega
      have hm8 : m ≤ 950000000 := by omega
      have HST := Lib.hid hst
      have HCV := Lib.hid hcv
      have HFE := Lib.hid (tkFE_bd hfe)
      have hwl := takeWs_len hfe
      obtain ⟨M, hM⟩ : ∃ M, x.covers.length = M := ⟨_, rfl⟩
      have HMM := Lib.hid hM
      rw [hM] at c8 HCV q5
      obtain ⟨hs0, hr8, hs8, ht1, ht2, hcc⟩ := HFE.out
      obtain ⟨_, _, hn1, hn2⟩ := slateE_bd hs0
      obtain ⟨nn, hnn⟩ := Int.eq_ofNat_of_zero_le (show 0 ≤ x.number by omega)
      rw [hnn] at hs0 c2
      have hsl : slateA x.scene x.setup x.number = slateS x.scene x.setup nn := by rw [hnn]; exact slateA_S hs0
      have hn99 : nn < 100 := by omega
      have HWS := Lib.hid (show takeWs x = [takeWd, slateS x.scene x.setup nn, x.roll, itS x.tin, itS x.tout, sndWd x.sound, goodWd x.good] by unfold takeWs; rw [hsl])
      rw [HWS.out] at hwl
      have HNN := Lib.hid hnn
      have HCC := Lib.hid hcc
      have HI1 := Lib.hid (show okI x.tin from ⟨by omega, by omega⟩)
      have HI2 := Lib.hid (show okI x.tout from ⟨by omega, by omega⟩)
      have hG1 := HG.out.new (tkCs x A8 M cc8) 125
      rw [show tkCs x A8 M cc8 = #[.string x.scene, .string x.setup, .int .i64 nn, .string x.roll, .string x.sound, .int .i64 x.tin, .int .i64 x.tout, .bool x.good, .slice A8 M cc8] by unfold tkCs; rw [hnn]] at hG1
      clear hst hcv hk2 hM hfe hpre hm hsl hnn hs0 hcc hle HG
      go_upto_region 5 with (fail)
      generalize hW : wr.alloc (.cells #[.string x.scene, .string x.setup, .int .i64 nn, .string x.roll, .string x.sound, .int .i64 x.tin, .int .i64 x.tout, .bool x.good, .slice A8 M cc8] 125) = w1 at *
      have G1 := Lib.hid (show LnG w pre u3 [(wr.heap.size, tkCs x A8 M cc8, 125)] w1 by unfold tkCs; rw [HNN.out]; exact hG1)
      have HTC := Lib.hid (fun (ls : List ByteArray) (vv : Value) (W : World) (hW : LnG w ls vv [(wr.heap.size, tkCs x A8 M cc8, 125)] W) => show W.cell? ⟨wr.heap.size, 0, none⟩ = some (.string x.scene) ∧ W.cell? ⟨wr.heap.size, 1, none⟩ = some (.string x.setup) ∧ W.cell? ⟨wr.heap.size, 2, none⟩ = some (.int .i64 (nn : Int)) ∧ W.cell? ⟨wr.heap.size, 3, none⟩ = some (.string x.roll) ∧ W.cell? ⟨wr.heap.size, 4, none⟩ = some (.string x.sound) ∧ W.cell? ⟨wr.heap.size, 5, none⟩ = some (.int .i64 x.tin) ∧ W.cell? ⟨wr.heap.size, 6, none⟩ = some (.int .i64 x.tout) ∧ W.cell? ⟨wr.heap.size, 7, none⟩ = some (.bool x.good) ∧ W.cell? ⟨wr.heap.size, 8, none⟩ = some (.slice A8 M cc8) from by
        have h := tk_cells (hW.prv _ List.mem_cons_self).1
        dsimp only at h
        rw [HNN.out] at h
        exact h)
      clear hW hG1 c0 c1 c2 c3 c4 c5 c6 c7 c8
      have y7 := (HTC.out _ _ _ G1.out).2.2.2.2.2.2.2.1
      go_upto_if 17 with (fail)
      go_cut [6] (fun s wx => s = .string (goodWd x.good) ∧ wx = w1)
      case first =>
        cases hg : x.good with
        | true =>
          rw [hg] at y7
          go_wp2
          go_meet
          exact ⟨by rw [hg]; rfl, rfl⟩
        | false =>
          rw [hg] at y7
          go_wp2
          go_meet
          exact ⟨by rw [hg]; rfl, rfl⟩
      case rest =>
      obtain ⟨rfl, rfl⟩ := hcut
      clear y7
      generalize goodWd x.good = gd at *
      obtain ⟨X, hX⟩ : ∃ X, joinSp [takeWd, slateS x.scene x.setup nn, x.roll, itS x.tin, itS x.tout, sndWd x.sound, gd] = X := ⟨_, rfl⟩
      have hxs : X.size ≤ 130 := by rw [← hX]; show (lineL _).toArray.size ≤ 130; simpa using hwl
      have HJX := Lib.hid (show joinSp (takeWs x) = X by rw [HWS.out]; exact hX)
      have HX0 := Lib.hid hX
      clear hX hwl
      go_upto_region 8 with (fail)
      obtain ⟨ι, ff, hne, hff, hfS⟩ := family (fun W => W.cell? ⟨wr.heap.size, 0, none⟩ = some (.string x.scene) ∧ W.cell? ⟨wr.heap.size, 1, none⟩ = some (.string x.setup) ∧ W.cell? ⟨wr.heap.size, 2, none⟩ = some (.int .i64 (nn : Int)) ∧ W.cell? ⟨wr.heap.size, 3, none⟩ = some (.string x.roll) ∧ W.cell? ⟨wr.heap.size, 4, none⟩ = some (.string x.sound) ∧ W.cell? ⟨wr.heap.size, 5, none⟩ = some (.int .i64 x.tin) ∧ W.cell? ⟨wr.heap.size, 6, none⟩ = some (.int .i64 x.tout)) wc (by obtain ⟨a, b, c, d, e, f, g, _⟩ := HTC.out _ _ _ G1.out; exact ⟨a, b, c, d, e, f, g⟩)
      have s0 := fun p => (hff p).1
      have s1 := fun p => (hff p).2.1
      have s2 := fun p => (hff p).2.2.1
      have s3 := fun p => (hff p).2.2.2.1
      have s4 := fun p => (hff p).2.2.2.2.1
      have s5 := fun p => (hff p).2.2.2.2.2.1
      have s6 := fun p => (hff p).2.2.2.2.2.2
      have HFC := Lib.hid (fun (ls : List ByteArray) (vv : Value) (W : World) (hW : LnG w ls vv [(wr.heap.size, tkCs x A8 M cc8, 125)] W) => hfS W (by obtain ⟨a, b, c, d, e, f, g, _⟩ := HTC.out _ _ _ hW; exact ⟨a, b, c, d, e, f, g⟩))
      have G0 := Lib.hid G1.out.drew
      have H0 := Lib.hid (HFC.out _ _ _ G0.out)
      clear hff hfS G1
      go_cut [3] (fun vv wx => Hid (LnG w (pre ++ [X]) vv [(wr.heap.size, tkCs x A8 M cc8, 125)] wx))
      case first =>
        refine stp_start [7, 12, 15, 18, 19, 21, 22, 23, 24] (by kernel_rfl) (fun W => ∃ p : ι, W = ff p) ?_
        refine stp_reads (n := 10) [0, 1, 3, 5, 8, 10, 13, 16, 20] [2, 4, 6, 9, 11, 14, 17] (by simp only [pick, List.getElem?_cons_succ, List.getElem?_cons_zero]; rfl) (by simp only [pick, List.getElem?_cons_succ, List.getElem?_cons_zero]; rfl) (by rfl) (by kernel_rfl) (by rfl) (fun _ _ _ dd _ h => by cases dd <;> exact h) H0.out (fun K21 hK21 M21 hM21 => ?_)
        repeat (first | go_big_quiet_step (fail) | quiet_step (fail))
        refine wpQuiet_nil (hM21 _ ?_)
        repeat (first | go_big_quiet_step (fail) | quiet_step (fail))
        refine wpQuiet_nil ?_
        refine hK21 _ ?_
        refine stp_two (i := 7) (j := 18) (by kernel_rfl) rfl rfl (by kernel_rfl) (by kernel_rfl) (by rfl) (by rfl) (fun K22 hK22 => ?_) (fun K23 hK23 => ?_)
        · refine Or.inl ⟨by kernel_rfl, ?_⟩
          go_simp
          refine (SlateOf_c x.scene x.setup nn _ (by omega) (by omega) (by omega)).mono ?_
          rintro e w' ⟨rfl, rfl⟩
          have G1 := G0
          have H1 := H0
          refine hK22 (fun W => ∃ p : ι, W = ff p) _ _ (fun _ h => h) (fun _ => H1.out) ?_
          refine stp_two (i := 12) (j := 18) (by kernel_rfl) rfl rfl (by kernel_rfl) (by kernel_rfl) (by rfl) (by rfl) (fun K24 hK24 => ?_) (fun K25 hK25 => ?_)
          · refine Or.inl ⟨by kernel_rfl, ?_⟩
            go_simp
            refine (itoa_c x.tin _ HI1.out (pow_below HP.out G1.out.bel (Nat.le_refl _))).mono ?_
            rintro e wn2 ⟨rfl, hb2⟩
            have G2 := Lib.hid (G1.out.below hb2)
            have H2 := Lib.hid (HFC.out _ _ _ (G2.out.less (by simp)))
            refine hK24 (fun W => ∃ p : ι, W = ff p) _ _ (fun _ h => h) (fun _ => H2.out) ?_
            refine stp_two (i := 15) (j := 18) (by kernel_rfl) rfl rfl (by kernel_rfl) (by kernel_rfl) (by rfl) (by rfl) (fun K26 hK26 => ?_) (fun K27 hK27 => ?_)
            · refine Or.inl ⟨by kernel_rfl, ?_⟩
              go_simp
              refine (itoa_c x.tout _ HI2.out (pow_below HP.out G2.out.bel (Nat.le_refl _))).mono ?_
              rintro e wn3 ⟨rfl, hb3⟩
              have G3 := Lib.hid (G2.out.below hb3)
              have H3 := Lib.hid (HFC.out _ _ _ (G3.out.less (by simp)))
              refine hK26 (fun W => ∃ p : ι, W = ff p) _ _ (fun _ h => h) (fun _ => H3.out) ?_
              refine stp_one (i := 18) (by kernel_rfl) rfl (by kernel_rfl) (by rfl) (fun K28 hK28 => ?_)
              refine Or.inl ⟨by kernel_rfl, ?_⟩
              go_simp
              have G4 := Lib.hid (G3.out.new #[.string x.sound, .string ⟨#[45]⟩] 9)
              have H4 := Lib.hid (HFC.out _ _ _ (G4.out.less (by simp)))
              refine hK28 (fun W => ∃ p : ι, W = ff p) _ _ (fun _ h => h) (fun _ => H4.out) ?_
              refine stp_one (i := 19) (by kernel_rfl) rfl (by kernel_rfl) (by rfl) (fun K29 hK29 => ?_)
              refine Or.inl ⟨by kernel_rfl, ?_⟩
              go_simp
              refine (orS_c x.sound _ _ (G4.out.prv _ List.mem_cons_self).1).mono ?_
              rintro e w' ⟨rfl, rfl⟩
              have G5 := G4
              have H5 := H4
              refine hK29 (fun W => ∃ p : ι, W = ff p) _ _ (fun _ h => h) (fun _ => H5.out) ?_
              refine stp_one (i := 21) (by kernel_rfl) rfl (by kernel_rfl) (by rfl) (fun K32 hK32 => ?_)
              refine Or.inl ⟨by kernel_rfl, ?_⟩
              go_simp
              have Gt1 := Lib.hid ((G5.out.less (Q := [(wr.heap.size, tkCs x A8 M cc8, 125)]) (by simp)).alloc (.cells #[.string ⟨#[116, 97, 107, 101]⟩, .string (slateS x.scene x.setup nn), .string x.roll, .string ⟨(Lib.itoa x.tin).toArray⟩, .string ⟨(Lib.itoa x.tout).toArray⟩, .string (sndWd x.sound), .string gd] 9))
              have Ht1 := Lib.hid (HFC.out _ _ _ Gt1.out)
              refine hK32 (fun W => ∃ p : ι, W = ff p) _ _ (fun _ h => h) (fun _ => Ht1.out) ?_
              refine stp_one (i := 22) (by kernel_rfl) rfl (by kernel_rfl) (by rfl) (fun K33 hK33 => ?_)
              refine Or.inl ⟨by kernel_rfl, ?_⟩
              go_simp
              have hcc := joinX [⟨#[116, 97, 107, 101]⟩, slateS x.scene x.setup nn, x.roll, ⟨(Lib.itoa x.tin).toArray⟩, ⟨(Lib.itoa x.tout).toArray⟩, sndWd x.sound, gd] ⟨#[32]⟩ X _ _ _ HX0.out (by omega) (strLit (wn3.alloc (.cells #[.string x.sound, .string ⟨#[45]⟩] 9)) [⟨#[116, 97, 107, 101]⟩, slateS x.scene x.setup nn, x.roll, ⟨(Lib.itoa x.tin).toArray⟩, ⟨(Lib.itoa x.tout).toArray⟩, sndWd x.sound, gd] #[.string ⟨#[116, 97, 107, 101]⟩, .string (slateS x.scene x.setup nn), .string x.roll, .string ⟨(Lib.itoa x.tin).toArray⟩, .string ⟨(Lib.itoa x.tout).toArray⟩, .string (sndWd x.sound), .string gd] 9 7 rfl rfl (by decide)) (fun b h => by rw [show b = _ from h]; simp) (by simp)
              rw [show (wn3.alloc (.cells #[.string x.sound, .string ⟨#[45]⟩] 9)).heap.size = wn3.heap.size + 1 by simp] at hcc
              with_reducible refine hcc.mono ?_
              rintro e wt2 ⟨rfl, hbt2⟩
              have Gt2 := Lib.hid (Gt1.out.below hbt2)
              have Ht2 := Lib.hid (HFC.out _ _ _ Gt2.out)
              refine hK33 (fun W => ∃ p : ι, W = ff p) _ _ (fun _ h => h) (fun _ => Ht2.out) ?_
              refine stp_one (i := 23) (by kernel_rfl) rfl (by kernel_rfl) (by rfl) (fun K34 hK34 => ?_)
              refine Or.inl ⟨by kernel_rfl, ?_⟩
              go_simp
              have Gt3 := Lib.hid (Gt2.out.alloc (.cells #[.string X] 9))
              have Ht3 := Lib.hid (HFC.out _ _ _ Gt3.out)
              refine hK34 (fun W => ∃ p : ι, W = ff p) _ _ (fun _ h => h) (fun _ => Ht3.out) ?_
              refine stp_one (i := 24) (by kernel_rfl) rfl (by kernel_rfl) (by rfl) (fun K35 hK35 => ?_)
              refine Or.inl ⟨by kernel_rfl, ?_⟩
              refine oper_pushS1 rfl _ _ _ rfl w.heap.size w.heap.size 9 i0 _ Tryz.underlying67 hi0 hz0 (by assumption) (by assumption) rfl _ u3 pre m HM.out rfl Gt3.out.own X wt2.heap.size _ _ (heap_alloc_new wt2 _) rfl hm9 (by have := Gt2.out.size; simp; omega) ?_
              intro g9 cap9 w9 hown9 hg9 hat9 hlt9
              have Gt4 := Lib.hid (Gt3.out.more hown9 hg9 rfl hat9)
              have Ht4 := Lib.hid (HFC.out _ _ _ Gt4.out)
              refine hK35 (fun W => ∃ p : ι, W = ff p) _ _ (fun _ h => h) (fun _ => Ht4.out) ?_
              refine stp_reads (n := 0) [25] [] (by simp only [pick, List.getElem?_cons_succ, List.getElem?_cons_zero]; rfl) (by simp only [pick, List.getElem?_cons_succ, List.getElem?_cons_zero]; rfl) (by rfl) (by kernel_rfl) (by rfl) (fun _ _ _ dd _ h => by cases dd <;> exact h) Ht4.out (fun K36 hK36 M36 hM36 => ?_)
              repeat (first | go_big_quiet_step (fail) | quiet_step (fail))
              refine wpQuiet_nil (hM36 _ ?_)
              repeat (first | go_big_quiet_step (fail) | quiet_step (fail))
              refine wpQuiet_nil ?_
              refine hK36 _ ?_
              refine stp_end (by kernel_rfl) ?_
              go_wp2
              go_meet
              exact Gt4
            · refine Or.inl ⟨by kernel_rfl, ?_⟩
              go_simp
              have G3 := Lib.hid (G2.out.new #[.string x.sound, .string ⟨#[45]⟩] 9)
              have H3 := Lib.hid (HFC.out _ _ _ (G3.out.less (by simp)))
              refine hK27 (fun W => ∃ p : ι, W = ff p) _ _ (fun _ h => h) (fun _ => H3.out) ?_
              refine stp_one (i := 15) (by kernel_rfl) rfl (by kernel_rfl) (by rfl) (fun K37 hK37 => ?_)
              refine Or.inl ⟨by kernel_rfl, ?_⟩
              go_simp
              refine (itoa_c x.tout _ HI2.out (pow_below HP.out G3.out.bel (Nat.le_refl _))).mono ?_
              rintro e wn4 ⟨rfl, hb4⟩
              have G4 := Lib.hid (G3.out.below hb4)
              have H4 := Lib.hid (HFC.out _ _ _ (G4.out.less (by simp)))
              refine hK37 (fun W => ∃ p : ι, W = ff p) _ _ (fun _ h => h) (fun _ => H4.out) ?_
              refine stp_one (i := 19) (by kernel_rfl) rfl (by kernel_rfl) (by rfl) (fun K38 hK38 => ?_)
              refine Or.inl ⟨by kernel_rfl, ?_⟩
              go_simp
              refine (orS_c x.sound _ _ (G4.out.prv _ List.mem_cons_self).1).mono ?_
              rintro e w' ⟨rfl, rfl⟩
              have G5 := G4
              have H5 := H4
              refine hK38 (fun W => ∃ p : ι, W = ff p) _ _ (fun _ h => h) (fun _ => H5.out) ?_
              refine stp_one (i := 21) (by kernel_rfl) rfl (by kernel_rfl) (by rfl) (fun K41 hK41 => ?_)
              refine Or.inl ⟨by kernel_rfl, ?_⟩
              go_simp
              have Gt1 := Lib.hid ((G5.out.less (Q := [(wr.heap.size, tkCs x A8 M cc8, 125)]) (by simp)).alloc (.cells #[.string ⟨#[116, 97, 107, 101]⟩, .string (slateS x.scene x.setup nn), .string x.roll, .string ⟨(Lib.itoa x.tin).toArray⟩, .string ⟨(Lib.itoa x.tout).toArray⟩, .string (sndWd x.sound), .string gd] 9))
              have Ht1 := Lib.hid (HFC.out _ _ _ Gt1.out)
              refine hK41 (fun W => ∃ p : ι, W = ff p) _ _ (fun _ h => h) (fun _ => Ht1.out) ?_
              refine stp_one (i := 22) (by kernel_rfl) rfl (by kernel_rfl) (by rfl) (fun K42 hK42 => ?_)
              refine Or.inl ⟨by kernel_rfl, ?_⟩
              go_simp
              have hcc := joinX [⟨#[116, 97, 107, 101]⟩, slateS x.scene x.setup nn, x.roll, ⟨(Lib.itoa x.tin).toArray⟩, ⟨(Lib.itoa x.tout).toArray⟩, sndWd x.sound, gd] ⟨#[32]⟩ X _ _ _ HX0.out (by omega) (strLit wn4 [⟨#[116, 97, 107, 101]⟩, slateS x.scene x.setup nn, x.roll, ⟨(Lib.itoa x.tin).toArray⟩, ⟨(Lib.itoa x.tout).toArray⟩, sndWd x.sound, gd] #[.string ⟨#[116, 97, 107, 101]⟩, .string (slateS x.scene x.setup nn), .string x.roll, .string ⟨(Lib.itoa x.tin).toArray⟩, .string ⟨(Lib.itoa x.tout).toArray⟩, .string (sndWd x.sound), .string gd] 9 7 rfl rfl (by decide)) (fun b h => by rw [show b = _ from h]; simp) (by simp)
              with_reducible refine hcc.mono ?_
              rintro e wt2 ⟨rfl, hbt2⟩
              have Gt2 := Lib.hid (Gt1.out.below hbt2)
              have Ht2 := Lib.hid (HFC.out _ _ _ Gt2.out)
              refine hK42 (fun W => ∃ p : ι, W = ff p) _ _ (fun _ h => h) (fun _ => Ht2.out) ?_
              refine stp_one (i := 23) (by kernel_rfl) rfl (by kernel_rfl) (by rfl) (fun K43 hK43 => ?_)
              refine Or.inl ⟨by kernel_rfl, ?_⟩
              go_simp
              have Gt3 := Lib.hid (Gt2.out.alloc (.cells #[.string X] 9))
              have Ht3 := Lib.hid (HFC.out _ _ _ Gt3.out)
              refine hK43 (fun W => ∃ p : ι, W = ff p) _ _ (fun _ h => h) (fun _ => Ht3.out) ?_
              refine stp_one (i := 24) (by kernel_rfl) rfl (by kernel_rfl) (by rfl) (fun K44 hK44 => ?_)
              refine Or.inl ⟨by kernel_rfl, ?_⟩
              refine oper_pushS1 rfl _ _ _ rfl w.heap.size w.heap.size 9 i0 _ Tryz.underlying67 hi0 hz0 (by assumption) (by assumption) rfl _ u3 pre m HM.out rfl Gt3.out.own X wt2.heap.size _ _ (heap_alloc_new wt2 _) rfl hm9 (by have := Gt2.out.size; simp; omega) ?_
              intro g9 cap9 w9 hown9 hg9 hat9 hlt9
              have Gt4 := Lib.hid (Gt3.out.more hown9 hg9 rfl hat9)
              have Ht4 := Lib.hid (HFC.out _ _ _ Gt4.out)
              refine hK44 (fun W => ∃ p : ι, W = ff p) _ _ (fun _ h => h) (fun _ => Ht4.out) ?_
              refine stp_reads (n := 0) [25] [] (by simp only [pick, List.getElem?_cons_succ, List.getElem?_cons_zero]; rfl) (by simp only [pick, List.getElem?_cons_succ, List.getElem?_cons_zero]; rfl) (by rfl) (by kernel_rfl) (by rfl) (fun _ _ _ dd _ h => by cases dd <;> exact h) Ht4.out (fun K45 hK45 M45 hM45 => ?_)
              repeat (first | go_big_quiet_step (fail) | quiet_step (fail))
              refine wpQuiet_nil (hM45 _ ?_)
              repeat (first | go_big_quiet_step (fail) | quiet_step (fail))
              refine wpQuiet_nil ?_
              refine hK45 _ ?_
              refine stp_end (by kernel_rfl) ?_
              go_wp2
              go_meet
              exact Gt4
          · refine Or.inl ⟨by kernel_rfl, ?_⟩
            go_simp
            have G2 := Lib.hid (G1.out.new #[.string x.sound, .string ⟨#[45]⟩] 9)
            have H2 := Lib.hid (HFC.out _ _ _ (G2.out.less (by simp)))
            refine hK25 (fun W => ∃ p : ι, W = ff p) _ _ (fun _ h => h) (fun _ => H2.out) ?_
            refine stp_one (i := 12) (by kernel_rfl) rfl (by kernel_rfl) (by rfl) (fun K46 hK46 => ?_)
            refine Or.inl ⟨by kernel_rfl, ?_⟩
            go_simp
            refine (itoa_c x.tin _ HI1.out (pow_below HP.out G2.out.bel (Nat.le_refl _))).mono ?_
            rintro e wn3 ⟨rfl, hb3⟩
            have G3 := Lib.hid (G2.out.below hb3)
            have H3 := Lib.hid (HFC.out _ _ _ (G3.out.less (by simp)))
            refine hK46 (fun W => ∃ p : ι, W = ff p) _ _ (fun _ h => h) (fun _ => H3.out) ?_
            refine stp_one (i := 15) (by kernel_rfl) rfl (by kernel_rfl) (by rfl) (fun K47 hK47 => ?_)
            refine Or.inl ⟨by kernel_rfl, ?_⟩
            go_simp
            refine (itoa_c x.tout _ HI2.out (pow_below HP.out G3.out.bel (Nat.le_refl _))).mono ?_
            rintro e wn4 ⟨rfl, hb4⟩
            have G4 := Lib.hid (G3.out.below hb4)
            have H4 := Lib.hid (HFC.out _ _ _ (G4.out.less (by simp)))
            refine hK47 (fun W => ∃ p : ι, W = ff p) _ _ (fun _ h => h) (fun _ => H4.out) ?_
            refine stp_one (i := 19) (by kernel_rfl) rfl (by kernel_rfl) (by rfl) (fun K48 hK48 => ?_)
            refine Or.inl ⟨by kernel_rfl, ?_⟩
            go_simp
            refine (orS_c x.sound _ _ (G4.out.prv _ List.mem_cons_self).1).mono ?_
            rintro e w' ⟨rfl, rfl⟩
            have G5 := G4
            have H5 := H4
            refine hK48 (fun W => ∃ p : ι, W = ff p) _ _ (fun _ h => h) (fun _ => H5.out) ?_
            refine stp_one (i := 21) (by kernel_rfl) rfl (by kernel_rfl) (by rfl) (fun K51 hK51 => ?_)
            refine Or.inl ⟨by kernel_rfl, ?_⟩
            go_simp
            have Gt1 := Lib.hid ((G5.out.less (Q := [(wr.heap.size, tkCs x A8 M cc8, 125)]) (by simp)).alloc (.cells #[.string ⟨#[116, 97, 107, 101]⟩, .string (slateS x.scene x.setup nn), .string x.roll, .string ⟨(Lib.itoa x.tin).toArray⟩, .string ⟨(Lib.itoa x.tout).toArray⟩, .string (sndWd x.sound), .string gd] 9))
            have Ht1 := Lib.hid (HFC.out _ _ _ Gt1.out)
            refine hK51 (fun W => ∃ p : ι, W = ff p) _ _ (fun _ h => h) (fun _ => Ht1.out) ?_
            refine stp_one (i := 22) (by kernel_rfl) rfl (by kernel_rfl) (by rfl) (fun K52 hK52 => ?_)
            refine Or.inl ⟨by kernel_rfl, ?_⟩
            go_simp
            have hcc := joinX [⟨#[116, 97, 107, 101]⟩, slateS x.scene x.setup nn, x.roll, ⟨(Lib.itoa x.tin).toArray⟩, ⟨(Lib.itoa x.tout).toArray⟩, sndWd x.sound, gd] ⟨#[32]⟩ X _ _ _ HX0.out (by omega) (strLit wn4 [⟨#[116, 97, 107, 101]⟩, slateS x.scene x.setup nn, x.roll, ⟨(Lib.itoa x.tin).toArray⟩, ⟨(Lib.itoa x.tout).toArray⟩, sndWd x.sound, gd] #[.string ⟨#[116, 97, 107, 101]⟩, .string (slateS x.scene x.setup nn), .string x.roll, .string ⟨(Lib.itoa x.tin).toArray⟩, .string ⟨(Lib.itoa x.tout).toArray⟩, .string (sndWd x.sound), .string gd] 9 7 rfl rfl (by decide)) (fun b h => by rw [show b = _ from h]; simp) (by simp)
            with_reducible refine hcc.mono ?_
            rintro e wt2 ⟨rfl, hbt2⟩
            have Gt2 := Lib.hid (Gt1.out.below hbt2)
            have Ht2 := Lib.hid (HFC.out _ _ _ Gt2.out)
            refine hK52 (fun W => ∃ p : ι, W = ff p) _ _ (fun _ h => h) (fun _ => Ht2.out) ?_
            refine stp_one (i := 23) (by kernel_rfl) rfl (by kernel_rfl) (by rfl) (fun K53 hK53 => ?_)
            refine Or.inl ⟨by kernel_rfl, ?_⟩
            go_simp
            have Gt3 := Lib.hid (Gt2.out.alloc (.cells #[.string X] 9))
            have Ht3 := Lib.hid (HFC.out _ _ _ Gt3.out)
            refine hK53 (fun W => ∃ p : ι, W = ff p) _ _ (fun _ h => h) (fun _ => Ht3.out) ?_
            refine stp_one (i := 24) (by kernel_rfl) rfl (by kernel_rfl) (by rfl) (fun K54 hK54 => ?_)
            refine Or.inl ⟨by kernel_rfl, ?_⟩
            refine oper_pushS1 rfl _ _ _ rfl w.heap.size w.heap.size 9 i0 _ Tryz.underlying67 hi0 hz0 (by assumption) (by assumption) rfl _ u3 pre m HM.out rfl Gt3.out.own X wt2.heap.size _ _ (heap_alloc_new wt2 _) rfl hm9 (by have := Gt2.out.size; simp; omega) ?_
            intro g9 cap9 w9 hown9 hg9 hat9 hlt9
            have Gt4 := Lib.hid (Gt3.out.more hown9 hg9 rfl hat9)
            have Ht4 := Lib.hid (HFC.out _ _ _ Gt4.out)
            refine hK54 (fun W => ∃ p : ι, W = ff p) _ _ (fun _ h => h) (fun _ => Ht4.out) ?_
            refine stp_reads (n := 0) [25] [] (by simp only [pick, List.getElem?_cons_succ, List.getElem?_cons_zero]; rfl) (by simp only [pick, List.getElem?_cons_succ, List.getElem?_cons_zero]; rfl) (by rfl) (by kernel_rfl) (by rfl) (fun _ _ _ dd _ h => by cases dd <;> exact h) Ht4.out (fun K55 hK55 M55 hM55 => ?_)
            repeat (first | go_big_quiet_step (fail) | quiet_step (fail))
            refine wpQuiet_nil (hM55 _ ?_)
            repeat (first | go_big_quiet_step (fail) | quiet_step (fail))
            refine wpQuiet_nil ?_
            refine hK55 _ ?_
            refine stp_end (by kernel_rfl) ?_
            go_wp2
            go_meet
            exact Gt4
        · refine Or.inl ⟨by kernel_rfl, ?_⟩
          go_simp
          have G1 := Lib.hid (G0.out.new #[.string x.sound, .string ⟨#[45]⟩] 9)
          have H1 := Lib.hid (HFC.out _ _ _ (G1.out.less (by simp)))
          refine hK23 (fun W => ∃ p : ι, W = ff p) _ _ (fun _ h => h) (fun _ => H1.out) ?_
          refine stp_one (i := 7) (by kernel_rfl) rfl (by kernel_rfl) (by rfl) (fun K56 hK56 => ?_)
          refine Or.inl ⟨by kernel_rfl, ?_⟩
          go_simp
          refine (SlateOf_c x.scene x.setup nn _ (by omega) (by omega) (by omega)).mono ?_
          rintro e w' ⟨rfl, rfl⟩
          have G2 := G1
          have H2 := H1
          refine hK56 (fun W => ∃ p : ι, W = ff p) _ _ (fun _ h => h) (fun _ => H2.out) ?_
          refine stp_one (i := 12) (by kernel_rfl) rfl (by kernel_rfl) (by rfl) (fun K57 hK57 => ?_)
          refine Or.inl ⟨by kernel_rfl, ?_⟩
          go_simp
          refine (itoa_c x.tin _ HI1.out (pow_below HP.out G2.out.bel (Nat.le_refl _))).mono ?_
          rintro e wn3 ⟨rfl, hb3⟩
          have G3 := Lib.hid (G2.out.below hb3)
          have H3 := Lib.hid (HFC.out _ _ _ (G3.out.less (by simp)))
          refine hK57 (fun W => ∃ p : ι, W = ff p) _ _ (fun _ h => h) (fun _ => H3.out) ?_
          refine stp_one (i := 15) (by kernel_rfl) rfl (by kernel_rfl) (by rfl) (fun K58 hK58 => ?_)
          refine Or.inl ⟨by kernel_rfl, ?_⟩
          go_simp
          refine (itoa_c x.tout _ HI2.out (pow_below HP.out G3.out.bel (Nat.le_refl _))).mono ?_
          rintro e wn4 ⟨rfl, hb4⟩
          have G4 := Lib.hid (G3.out.below hb4)
          have H4 := Lib.hid (HFC.out _ _ _ (G4.out.less (by simp)))
          refine hK58 (fun W => ∃ p : ι, W = ff p) _ _ (fun _ h => h) (fun _ => H4.out) ?_
          refine stp_one (i := 19) (by kernel_rfl) rfl (by kernel_rfl) (by rfl) (fun K59 hK59 => ?_)
          refine Or.inl ⟨by kernel_rfl, ?_⟩
          go_simp
          refine (orS_c x.sound _ _ (G4.out.prv _ List.mem_cons_self).1).mono ?_
          rintro e w' ⟨rfl, rfl⟩
          have G5 := G4
          have H5 := H4
          refine hK59 (fun W => ∃ p : ι, W = ff p) _ _ (fun _ h => h) (fun _ => H5.out) ?_
          refine stp_one (i := 21) (by kernel_rfl) rfl (by kernel_rfl) (by rfl) (fun K62 hK62 => ?_)
          refine Or.inl ⟨by kernel_rfl, ?_⟩
          go_simp
          have Gt1 := Lib.hid ((G5.out.less (Q := [(wr.heap.size, tkCs x A8 M cc8, 125)]) (by simp)).alloc (.cells #[.string ⟨#[116, 97, 107, 101]⟩, .string (slateS x.scene x.setup nn), .string x.roll, .string ⟨(Lib.itoa x.tin).toArray⟩, .string ⟨(Lib.itoa x.tout).toArray⟩, .string (sndWd x.sound), .string gd] 9))
          have Ht1 := Lib.hid (HFC.out _ _ _ Gt1.out)
          refine hK62 (fun W => ∃ p : ι, W = ff p) _ _ (fun _ h => h) (fun _ => Ht1.out) ?_
          refine stp_one (i := 22) (by kernel_rfl) rfl (by kernel_rfl) (by rfl) (fun K63 hK63 => ?_)
          refine Or.inl ⟨by kernel_rfl, ?_⟩
          go_simp
          have hcc := joinX [⟨#[116, 97, 107, 101]⟩, slateS x.scene x.setup nn, x.roll, ⟨(Lib.itoa x.tin).toArray⟩, ⟨(Lib.itoa x.tout).toArray⟩, sndWd x.sound, gd] ⟨#[32]⟩ X _ _ _ HX0.out (by omega) (strLit wn4 [⟨#[116, 97, 107, 101]⟩, slateS x.scene x.setup nn, x.roll, ⟨(Lib.itoa x.tin).toArray⟩, ⟨(Lib.itoa x.tout).toArray⟩, sndWd x.sound, gd] #[.string ⟨#[116, 97, 107, 101]⟩, .string (slateS x.scene x.setup nn), .string x.roll, .string ⟨(Lib.itoa x.tin).toArray⟩, .string ⟨(Lib.itoa x.tout).toArray⟩, .string (sndWd x.sound), .string gd] 9 7 rfl rfl (by decide)) (fun b h => by rw [show b = _ from h]; simp) (by simp)
          with_reducible refine hcc.mono ?_
          rintro e wt2 ⟨rfl, hbt2⟩
          have Gt2 := Lib.hid (Gt1.out.below hbt2)
          have Ht2 := Lib.hid (HFC.out _ _ _ Gt2.out)
          refine hK63 (fun W => ∃ p : ι, W = ff p) _ _ (fun _ h => h) (fun _ => Ht2.out) ?_
          refine stp_one (i := 23) (by kernel_rfl) rfl (by kernel_rfl) (by rfl) (fun K64 hK64 => ?_)
          refine Or.inl ⟨by kernel_rfl, ?_⟩
          go_simp
          have Gt3 := Lib.hid (Gt2.out.alloc (.cells #[.string X] 9))
          have Ht3 := Lib.hid (HFC.out _ _ _ Gt3.out)
          refine hK64 (fun W => ∃ p : ι, W = ff p) _ _ (fun _ h => h) (fun _ => Ht3.out) ?_
          refine stp_one (i := 24) (by kernel_rfl) rfl (by kernel_rfl) (by rfl) (fun K65 hK65 => ?_)
          refine Or.inl ⟨by kernel_rfl, ?_⟩
          refine oper_pushS1 rfl _ _ _ rfl w.heap.size w.heap.size 9 i0 _ Tryz.underlying67 hi0 hz0 (by assumption) (by assumption) rfl _ u3 pre m HM.out rfl Gt3.out.own X wt2.heap.size _ _ (heap_alloc_new wt2 _) rfl hm9 (by have := Gt2.out.size; simp; omega) ?_
          intro g9 cap9 w9 hown9 hg9 hat9 hlt9
          have Gt4 := Lib.hid (Gt3.out.more hown9 hg9 rfl hat9)
          have Ht4 := Lib.hid (HFC.out _ _ _ Gt4.out)
          refine hK65 (fun W => ∃ p : ι, W = ff p) _ _ (fun _ h => h) (fun _ => Ht4.out) ?_
          refine stp_reads (n := 0) [25] [] (by simp only [pick, List.getElem?_cons_succ, List.getElem?_cons_zero]; rfl) (by simp only [pick, List.getElem?_cons_succ, List.getElem?_cons_zero]; rfl) (by rfl) (by kernel_rfl) (by rfl) (fun _ _ _ dd _ h => by cases dd <;> exact h) Ht4.out (fun K66 hK66 M66 hM66 => ?_)
          repeat (first | go_big_quiet_step (fail) | quiet_step (fail))
          refine wpQuiet_nil (hM66 _ ?_)
          repeat (first | go_big_quiet_step (fail) | quiet_step (fail))
          refine wpQuiet_nil ?_
          refine hK66 _ ?_
          refine stp_end (by kernel_rfl) ?_
          go_wp2
          go_meet
          exact Gt4
      case rest =>
      clear s0 s1 s2 s3 s4 s5 s6 G0 H0 HX0 HTC HFC HI1 HI2 HFE HWS HNN hn1 hn2 hn99 ht1 ht2 hr8 hs8
      obtain ⟨_, _, _, _, _, _, _, _, y8⟩ := tk_cells (hcut.out.prv _ List.mem_cons_self).1
      have HG2 := Lib.hid (hcut.out.less (Q := []) (by simp))
      have HCL := Lib.hid (fun c hc => covWs_len (HCC.out c hc))
      have HPL := Lib.hid (show (pre ++ [X]).length = m + 1 by rw [List.length_append, HM.out]; rfl)
      have HFIN := Lib.hid (show tkPre (tl.map (·.1)) (k + 1) = pre ++ [X] ++ x.covers.map (fun c => joinSp (covWs c)) by rw [HST.out, HJX.out])
      clear hcut HST HJX hxs
      generalize pre ++ [X] = pr2 at *
      go_wp2
      go_loopw [3, 46] (fun v i wr => ∃ j : Nat, j ≤ M ∧ i = .int .i64 j ∧ Hid (LnG w (pr2 ++ (x.covers.take j).map fun c => joinSp (covWs c)) v [] wr)) (fun _ i _ => M - (intOf i).toNat)
      case atStart => exact ⟨0, Nat.zero_le _, rfl, by rw [List.take_zero, List.map_nil, List.append_nil]; exact HG2⟩
      case round =>
        clear HG2 y8
        obtain ⟨j, hj, rfl, HG⟩ := hrel
        by_cases hlj : j < M
        · have hj2 : j < x.covers.length := by rw [HMM.out]; exact hlj
          obtain ⟨b2, off2, rfl, hfb2, d0, d1, d2, d3⟩ := covAt (HCV.out.below HG.out.bel HH.out.lt) j hj2
          have hcm := List.getElem_mem hj2
          have hcl := HCL.out _ hcm
          obtain ⟨o1, o2, o3⟩ := HCC.out _ hcm
          have hbw2 : b2 < wr.heap.size := by have := HH.out.lt b2 hfb2; have := HG.out.size; omega
          have HNX := Lib.hid (show pr2 ++ (x.covers.take (j + 1)).map (fun c => joinSp (covWs c)) = (pr2 ++ (x.covers.take j).map fun c => joinSp (covWs c)) ++ [joinSp (covWs (x.covers[j]'hj2))] by
            rw [List.take_succ_eq_append_getElem hj2, List.map_append, List.map_singleton, List.append_assoc])
          obtain ⟨m2, hm2⟩ : ∃ m2, (pr2 ++ (x.covers.take j).map fun c => joinSp (covWs c)).length = m2 := ⟨_, rfl⟩
          have hm29 : m2 ≤ 1000000000 := by rw [← hm2, List.length_append, HPL.out, List.length_map, List.length_take]; omega
          have HM2 := Lib.hid hm2
          clear hcm hm2
          generalize (x.covers[j]'hj2) = z at *
          generalize pr2 ++ (x.covers.take j).map (fun c => joinSp (covWs c)) = cur at *
          have HB1 := Lib.hid (HG.out.new #[.int .i64 z.para, .int .i64 z.tin, .int .i64 z.tout, .bool z.on] 127)
          clear hj2 HG
          go_upto_region 12 with (fail)
          generalize hW : wr.alloc (.cells #[.int .i64 z.para, .int .i64 z.tin, .int .i64 z.tout, .bool z.on] 127) = w9 at *
          obtain ⟨y, _⟩ := HB1.out.cell (p := (wr.heap.size, #[.int .i64 z.para, .int .i64 z.tin, .int .i64 z.tout, .bool z.on], 127)) (by simp)
          have e0 : w9.cell? ⟨wr.heap.size, 0, none⟩ = some (.int .i64 z.para) := y 0
          have e1 : w9.cell? ⟨wr.heap.size, 1, none⟩ = some (.int .i64 z.tin) := y 1
          have e2 : w9.cell? ⟨wr.heap.size, 2, none⟩ = some (.int .i64 z.tout) := y 2
          have e3 : w9.cell? ⟨wr.heap.size, 3, none⟩ = some (.bool z.on) := y 3
          have HB2 := Lib.hid (HB1.out.less (Q := []) (by simp))
          clear y hW d0 d1 d2 d3 HB1
          have HCW := Lib.hid (show covWs z = [coverWd, itS z.para, itS z.tin, itS z.tout, onWd z.on] from rfl)
          rw [HCW.out] at hcl
          go_upto_if 51 with (fail)
          go_cut [9] (fun s wx => s = .string (onWd z.on) ∧ wx = w9)
          case first =>
            cases hg : z.on with
            | true =>
              rw [hg] at e3
              go_wp2
              go_meet
              exact ⟨by rw [hg]; rfl, rfl⟩
            | false =>
              rw [hg] at e3
              go_wp2
              go_meet
              exact ⟨by rw [hg]; rfl, rfl⟩
          case rest =>
          obtain ⟨rfl, rfl⟩ := hcut
          generalize onWd z.on = od at *
          have HPW2 := Lib.hid (show PowLaid wc from pow_below HP.out HB2.out.bel (Nat.le_refl _))
          have s3 := fun d os => cell_regrown e0 d os
          have s5 := fun d os => cell_regrown e1 d os
          have s6 := fun d os => cell_regrown e2 d os
          have HJ1 := Lib.hid (show okI z.para from ⟨by omega, by omega⟩)
          have HJ2 := Lib.hid (show okI z.tin from ⟨by omega, by omega⟩)
          have HJ3 := Lib.hid (show okI z.tout from ⟨by omega, by omega⟩)
          clear e0 e1 e2 e3
          go_upto_region 15 with (fail)
          refine wp_region_below_tail1 (v0 := u3) 11 (by kernel_rfl) (by kernel_rfl) (by kernel_rfl) (by kernel_rfl) (fun _ _ _ h => h) (Or.inl ⟨by rfl, fun w => by rfl⟩) ?_
          simp only [List.take_succ_cons, List.take_zero, List.drop_succ_cons, List.drop_zero, Act.put, List.setIfInBounds_toArray, List.set_cons_zero, List.set_cons_succ]
          repeat (first | go_big_quiet_step ((first | (go_at_call 96; exact Calls.regrown_of (itoa_c z.para _ HJ1.out (pow_below HPW2.out (below_regrown _ _ _) (Nat.le_refl _)))) | (go_at_call 96; exact Calls.regrown_of (itoa_c z.tin _ HJ2.out (pow_below HPW2.out (below_regrown _ _ _) (Nat.le_refl _)))) | (go_at_call 96; exact Calls.regrown_of (itoa_c z.tout _ HJ3.out (pow_below HPW2.out (below_regrown _ _ _) (Nat.le_refl _)))))) | quiet_step ((first | (go_at_call 96; exact Calls.regrown_of (itoa_c z.para _ HJ1.out (pow_below HPW2.out (below_regrown _ _ _) (Nat.le_refl _)))) | (go_at_call 96; exact Calls.regrown_of (itoa_c z.tin _ HJ2.out (pow_below HPW2.out (below_regrown _ _ _) (Nat.le_refl _)))) | (go_at_call 96; exact Calls.regrown_of (itoa_c z.tout _ HJ3.out (pow_below HPW2.out (below_regrown _ _ _) (Nat.le_refl _)))))))
          refine wpQuiet_nil ?_
          intro wx hwx
          have hbx := below_of_regrown hwx
          clear hwx
          clear s3 s5 s6
          have HBx := Lib.hid (HB2.out.below hbx)
          have hzx := HBx.out.size
          clear hbx HB2
          obtain ⟨X2, hX⟩ : ∃ X2, joinSp [coverWd, itS z.para, itS z.tin, itS z.tout, od] = X2 := ⟨_, rfl⟩
          have hxs : X2.size ≤ 90 := by rw [← hX]; show (lineL _).toArray.size ≤ 90; simpa using hcl
          have HJX := Lib.hid (show joinSp (covWs z) = X2 by rw [HCW.out]; exact hX)
          have HX0 := Lib.hid hX
          clear hX hcl
          go_wp2_with fail
          refine (joinX [coverWd, itS z.para, itS z.tin, itS z.tout, od] ⟨#[32]⟩ X2 _ _ _ HX0.out (by omega) (strLit wx _ _ _ 5 rfl rfl (by decide)) (fun b h => by simp; omega) (by simp)).mono ?_
          rintro e wq ⟨rfl, hbq⟩
          have HBq := Lib.hid ((HBx.out.alloc _).below hbq)
          have hzq := HBq.out.size
          clear hbq HBx
          have HNX2 := Lib.hid (show cur ++ [X2] = pr2 ++ (x.covers.take (j + 1)).map (fun c => joinSp (covWs c)) by rw [HNX.out, HJX.out])
          go_wp2_with (at_builtin; (refine wpList_pushS1 rfl _ _ _ rfl w.heap.size w.heap.size 9 i0 _ Tryz.underlying67 hi0 hz0 (by assumption) (by assumption) rfl _ u3 cur m2 HM2.out rfl (HBq.out.own.alloc _) X2 wq.heap.size _ _ (heap_alloc_new wq _) rfl (by omega) (by simp; omega) ?_); intro g11 cap11 w11 hown11 hg11 hat11 hlt11)
          go_roundw
          case rel => exact ⟨j + 1, by omega, intNum, by rw [← HNX2.out]; exact Lib.hid ((HBq.out.alloc (.cells #[.string X2] 9)).more hown11 hg11 rfl hat11)⟩
          case measure => simp [intOf]; omega
        · have HE := Lib.hid (show LnG w (tkPre (tl.map (·.1)) (k + 1)) u3 [] wr by
            have h := HG.out
            rw [List.take_of_length_le (by rw [HMM.out]; omega), ← HFIN.out] at h
            exact h)
          clear HG
          go_wp2
          go_roundw
          case rel => exact ⟨k + 1, by omega, intNum, HE⟩
          case measure => simp [intOf]; omega
    · have hek : tkPre (tl.map (·.1)) k = takesLns (tl.map (·.1)) := by
        unfold tkPre
        rw [List.take_of_length_le (by rw [List.length_map, HL.out]; omega)]
      have HE := Lib.hid (show LnG w (takesLns (tl.map (·.1))) u3 [] wr by rw [← hek]; exact HG.out)
      have htl := takesT_len (tl.map (·.1)) 300000 (fun t ht => by
        obtain ⟨x, hx, rfl⟩ := List.mem_map.1 ht
        exact HOK.out.2 x hx)
      rw [List.length_map, HL.out] at htl
      have htl2 : (131 + 91 * 300000) * L ≤ (131 + 91 * 300000) * 3000 := Nat.mul_le_mul_left _ hl3
      have HJ := Lib.hid (Joined_c (takesLns (tl.map (·.1))) u3 _ wr (HE.out.own.sli (F := fun q => q < wr.heap.size) (fun q h1 h2 => h2) (fun g hg => (HE.out.own.block g hg).2)) (fun q h => h) (by show (takesT _).length ≤ _; omega))
      clear HG hek htl htl2
      go_wp2_with fail
      refine HJ.out.mono ?_
      rintro e w8 ⟨rfl, hb8⟩
      go_wp2
      go_ret
      exact ⟨rfl, HE.out.bel.trans (hb8.mono HE.out.size)⟩
end Go.Proofs.YtihkkaeoijheoaaGreatDoor

/- The generator's texts of takes. -/
namespace Go.Proofs.YtihkkaeoijheoaaGreatDoor
set_option linter.unusedVariables false
open Go.RowKit Go.Sort

theorem TkW.go {w w' : World} {F G : Nat → Prop} {tl : List (Tk × Value)} {v : Value} (h : TkW w F tl v) (hk : ∀ b, F b → w'.heap[b]? = w.heap[b]?) (hG : ∀ b, F b → G b) (hl : ∀ b, G b → b < w'.heap.size) : TkW w' G tl v :=
  ⟨(h.sli.keep hk).more hG, fun y hy => ((h.cov y hy).keep hk).more hG, hl, h.len, h.bd⟩
/-- Takes of the generator, wherever they lie but in the stream's block. -/
structure TkY (B : Int) (sb : Nat) (w : World) (tl : List (Tk × Value)) (v : Value) : Prop where
  tk : TkW w (fun q => q < w.heap.size ∧ q ≠ sb) tl v
  bd : ∀ y ∈ tl, tkB B y.1
  len : tl.length ≤ 25
theorem TkY.turn {B : Int} {sb : Nat} {w w' : World} {tl : List (Tk × Value)} {v : Value} (h : TkY B sb w tl v) (hg : w.grownBy w' (some sb)) : TkY B sb w' tl v :=
  ⟨h.tk.go (fun q hq => hg.block q hq.1 (by simp; exact hq.2)) (fun q hq => ⟨Nat.lt_of_lt_of_le hq.1 hg.size, hq.2⟩) (fun q hq => hq.1), h.bd, h.len⟩
theorem TkY.below {B : Int} {sb : Nat} {w w' : World} {tl : List (Tk × Value)} {v : Value} (h : TkY B sb w tl v) (hb : Below w.heap.size w w') : TkY B sb w' tl v :=
  ⟨h.tk.go (fun q hq => hb.block q hq.1) (fun q hq => ⟨Nat.lt_of_lt_of_le hq.1 hb.size, hq.2⟩) (fun q hq => hq.1), h.bd, h.len⟩
theorem TkY.mk' {B : Int} {sb : Nat} {w w0 : World} {tl : List (Tk × Value)} {v : Value} {F : Nat → Prop} {e : TypeId} (ho : Own tvR w w0.heap.size w0.heap.size e tl v) (hsb : sb < w0.heap.size) (hc : ∀ y ∈ tl, Sli covR w F y.1.covers y.2) (hF : ∀ q, F q → q < w.heap.size ∧ q ≠ sb) (hb : ∀ y ∈ tl, tkB B y.1) (hl : tl.length ≤ 25) : TkY B sb w tl v :=
  ⟨⟨ho.sli (fun q h1 h2 => ⟨h2, by omega⟩) (fun g hg => ⟨(ho.block g hg).2, by have := (ho.block g hg).1; omega⟩), fun y hy => (hc y hy).more hF, fun b hq => hq.1, by omega, fun y hy => by
    have h := hb y hy
    unfold tkB at h
    exact ⟨by omega, by omega, by omega, by omega, by omega⟩⟩, hb, hl⟩
theorem TkY.nil_ {B : Int} {sb : Nat} {w : World} : TkY B sb w [] (.slice none 0 0) :=
  ⟨⟨Sli.nil_, fun y hy => (by cases hy), fun b hq => hq.1, by simp, fun y hy => (by cases hy)⟩, fun y hy => (by cases hy), by simp⟩
theorem TkY.tsz {B : Int} {sb : Nat} {w : World} {tl : List (Tk × Value)} {v : Value} (h : TkY B sb w tl v) (h0 : tksE (tl.map (·.1)) = 0) : (takesX (tl.map (·.1))).size ≤ 200000 := by
  have hz : (takesX (tl.map (·.1))).size = (takesT (tl.map (·.1))).length := by show (takesT _).toArray.size = _; simp
  have h1 := takesT_len (tl.map (·.1)) 70 (fun t ht => by
    obtain ⟨x, hx, rfl⟩ := List.mem_map.1 ht
    refine ⟨((h.tk.ok h0).2 x hx).1, ?_⟩
    have := h.bd x hx
    unfold tkB at this
    omega)
  rw [List.length_map] at h1
  have h2 : (131 + 91 * 70) * tl.length ≤ (131 + 91 * 70) * 25 := Nat.mul_le_mul_left _ h.len
  omega
set_option maxRecDepth 100000 in
set_option maxHeartbeats 4000000 in
theorem GTakesText_c (sb : Nat) (k0 : Int) (w : World) (hs : Str w sb k0) (hk0 : k0 ≤ 2900000000000000000) (hL : LaidS sb w) :
    Calls Tryz.prog 26 #[.pointer (some ⟨sb, 0, none⟩)] w (Took sb k0 100000000 (isStr (fun x => x.size ≤ 200000000)) w) := by
  have S0 := Lib.hid hs
  have L0 := Lib.hid hL
  have hsb := hs.lt
  clear hs hL
  go_enter Tryz.func26, Tryz.ntmps26
  go_wp2_with fail
  refine (Story_c sb k0 _ S0.out (by omega) L0.out).mono ?_
  rintro e w2 ⟨v2, k2, rfl, ⟨x, ls, sv, rfl, hxs, hown, hin, hbd⟩, hk2, hs2, hg2⟩
  have hz2 := hg2.size
  have S2 := Lib.hid hs2
  have G2 := Lib.hid hg2
  have L2 := Lib.hid (L0.out.grown hsb hg2)
  have O2 := Lib.hid (hown.sli (F := fun q => w.heap.size ≤ q ∧ q < w2.heap.size) (fun q h1 h2 => ⟨h1, h2⟩) (fun g hg => ⟨(hown.block g hg).1, (hown.block g hg).2⟩))
  have HN2 := Lib.hid (show ∀ y ∈ ls, ∃ A c, y.2 = .slice A y.1.paras.length c from fun y hy => by
    obtain ⟨A, c, e, _⟩ := (hin y hy).form
    exact ⟨A, c, e⟩)
  have HL2 := Lib.hid (show ls.length ≤ 90 by have := hbd.2.1; rw [hxs, List.length_map] at this; exact this)
  have HB2 := Lib.hid (show ∀ y ∈ ls, sceneBd y.1 from fun y hy => hbd.2.2 _ (by rw [hxs]; exact List.mem_map_of_mem hy))
  have hk20 := hs2.nonneg
  clear hs2 hg2 hown hin hbd hxs S0 L0
  go_wp2_with fail
  refine (rightRolls_c sb k2 _ S2.out (by omega)).mono ?_
  rintro e w1 ⟨v1, k1, rfl, hv1, hk1, hs1, hg1⟩
  obtain ⟨B, ra, rb, rc, rfl, hB, hBw, hR1, ha, hb, hc⟩ := hv1
  have hz1 := hg1.size
  have S1 := Lib.hid hs1
  have G1 := Lib.hid (gTrans G2.out hg1)
  have R1 := Lib.hid hR1
  have L1 := Lib.hid (L2.out.grown (by omega) hg1)
  have HA := Lib.hid (And.intro ha (And.intro hb hc))
  have O1 := Lib.hid ((O2.out.keep (fun q hq => hg1.block q hq.2 (by simp; omega))).more (G := fun q => w.heap.size ≤ q ∧ q < w1.heap.size) (fun q hq => ⟨hq.1, by omega⟩))
  have hk10 := hs1.nonneg
  clear hs1 hg1 hR1 ha hb hc S2 G2 O2 L2
  go_wp2_with fail
  refine (Takes_c sb B k1 x.title ls sv ra rb rc _ S1.out (by omega) O1.out (fun q hq => ⟨hq.2, by have := hq.1; omega⟩) HL2.out HN2.out HB2.out R1.out HA.out.1 HA.out.2.1 HA.out.2.2 (by omega)).mono ?_
  rintro e w4 ⟨tv, k4, rfl, ⟨tl, hto, hti, htb, htl⟩, hk4, hs4, hg4⟩
  have hz4 := hg4.size
  have hk40 := hs4.nonneg
  have T4 := Lib.hid (TkY.mk' (sb := sb) (B := 300000000) hto (by omega) hti (fun q hq => by
    rcases hq with hq | hq
    · exact hq.elim
    · exact ⟨hq.2.1, by have := hq.1; omega⟩) htb (by omega))
  have S4 := Lib.hid hs4
  have G4 := Lib.hid (gTrans G1.out hg4)
  have L4 := Lib.hid (L1.out.grown (by omega) hg4)
  clear hs4 hg4 hto hti htb S1 G1 O1 L1 R1
  have HTF := Lib.hid (TellTakesFault_c tl tv w4 T4.out.tk)
  go_wp2_with fail
  refine HTF.out.mono ?_
  rintro e w5 ⟨rfl, hb5⟩
  have hz5 := hb5.size
  have T5 := Lib.hid (T4.out.below hb5)
  have S5 := Lib.hid (S4.out.below hb5)
  have G5 := Lib.hid (gBelow G4.out hb5)
  have L5 := Lib.hid (L4.out.below hb5 (by omega))
  clear hb5 HTF T4 S4 G4 L4
  go_upto_if 13 with (fail)
  go_cut [3] (fun v wx => ∃ tl : List (Tk × Value), wx = w5 ∧ Hid (TkY 300000000 sb w5 tl v) ∧ Hid (tksE (tl.map (·.1)) = 0))
  case first =>
    by_cases h0 : tksE (tl.map (·.1)) = 0
    · have HE := Lib.hid h0
      rw [h0]
      clear h0
      go_wp2
      go_meet
      exact ⟨tl, rfl, T5.out, HE.out⟩
    · have hne : (tksE (tl.map (·.1)) != 0) = true := bne_iff_ne.2 h0
      generalize tksE (tl.map (·.1)) = te at *
      clear h0
      go_wp2
      go_meet
      exact ⟨[], rfl, TkY.nil_, rfl⟩
  case rest =>
  clear T5
  obtain ⟨tl, rfl, T5, HE⟩ := hcut
  have HTT := Lib.hid (TakesText_c tl u3 wc T5.out.tk HE.out L5.out.pow)
  have hts := T5.out.tsz HE.out
  go_wp2_with fail
  refine HTT.out.mono ?_
  rintro e w6 ⟨rfl, hb6⟩
  have S6 := Lib.hid (S5.out.below hb6)
  have G6 := Lib.hid (gBelow G5.out hb6)
  generalize takesX (tl.map (·.1)) = T at *
  clear hb6 HTT T5 S5 G5 L5 HE
  go_wp2_with fail
  refine (flip_c sb k4 2 _ S6.out (by omega) (by omega) (by omega)).mono ?_
  rintro e w7 ⟨v7, k7, rfl, ⟨b7, rfl⟩, hk7, hs7, hg7⟩
  have S7 := Lib.hid hs7
  have G7 := Lib.hid (gTrans G6.out hg7)
  have hk70 := hs7.nonneg
  clear hs7 hg7 S6 G6
  go_upto_if 17 with (fail)
  go_cut [4] (fun s wx => ∃ (t : ByteArray) (n : Int), s = .string t ∧ t.size ≤ 100000100 ∧ n ≤ k7 + 1 ∧ Hid (Str wx sb n) ∧ Hid (w.grownBy wx (some sb)))
  case first =>
    cases b7 with
    | false =>
      go_wp2
      go_meet
      exact ⟨T, k7, rfl, by omega, by omega, S7.out, G7.out⟩
    | true =>
      go_wp2_with fail
      refine (oneL w7 [⟨#[99, 111, 118, 101, 114, 32, 48, 32, 49, 32, 50, 32, 111, 110, 10]⟩, ⟨#[116, 97, 107, 101, 32, 49, 45, 49, 32, 65, 49, 32, 48, 32, 53, 32, 45, 32, 103, 111, 111, 100, 10]⟩, ⟨#[116, 97, 107, 101, 32, 49, 47, 73, 45, 49, 32, 65, 49, 32, 48, 32, 53, 32, 45, 32, 103, 111, 111, 100, 10]⟩, ⟨#[116, 97, 107, 101, 32, 49, 45, 49, 32, 65, 49, 32, 48, 32, 53, 32, 45, 32, 102, 105, 110, 101, 10]⟩, ⟨#[116, 97, 107, 101, 32, 49, 45, 49, 32, 97, 49, 32, 48, 32, 53, 32, 45, 32, 98, 97, 100, 10]⟩, ⟨#[116, 97, 107, 101, 32, 49, 45, 49, 32, 65, 49, 32, 48, 32, 49, 48, 48, 48, 48, 48, 48, 49, 32, 45, 32, 98, 97, 100, 10]⟩, ⟨#[116, 97, 107, 101, 32, 49, 45, 49, 32, 65, 49, 32, 45, 49, 32, 53, 32, 45, 32, 98, 97, 100, 10]⟩, ⟨#[99, 111, 118, 101, 114, 32, 48, 32, 49, 32, 50, 10]⟩, ⟨#[10]⟩] _ _ _ _ rfl rfl (by decide) (by decide) S7.out (by omega)).mono ?_
      rintro e w8 ⟨v8, k8, rfl, ⟨x8, hx8, rfl⟩, hk8, hs8, hg8⟩
      have b8 : x8.size ≤ 60 := oneOf (n := 60) (by decide +kernel) hx8
      have S8 := Lib.hid hs8
      have G8 := Lib.hid (gTrans (gAlloc G7.out _) hg8)
      clear hs8 hg8 hx8
      go_wp2
      go_meet
      exact ⟨T ++ x8, k8, rfl, by rw [ByteArray.size_append]; omega, by omega, S8.out, G8.out⟩
  case rest =>
  clear S7 G7 hts
  obtain ⟨t9, k9, rfl, ht9, hk9, S9, G9⟩ := hcut
  have hk90 := S9.out.nonneg
  go_wp2_with fail
  refine (flip_c sb k9 3 _ S9.out (by omega) (by omega) (by omega)).mono ?_
  rintro e w10 ⟨v10, k10, rfl, ⟨b10, rfl⟩, hk10, hs10, hg10⟩
  have S10 := Lib.hid hs10
  have G10 := Lib.hid (gTrans G9.out hg10)
  have hk100 := hs10.nonneg
  clear hs10 hg10 S9 G9
  cases b10 with
  | false =>
    go_wp2
    go_ret
    exact ⟨_, k10, rfl, ⟨t9, by show _ ≤ _; omega, rfl⟩, by omega, S10.out, G10.out⟩
  | true =>
    go_wp2_with fail
    refine (Changed_c sb k10 t9 ⟨#[48, 49, 32, 45, 10, 47]⟩ _ S10.out (by omega) (by omega) (by decide)).mono ?_
    rintro e w11 ⟨v11, k11, rfl, ⟨x11, hx11, rfl⟩, hk11, hs11, hg11⟩
    have S11 := Lib.hid hs11
    have G11 := Lib.hid (gTrans G10.out hg11)
    have b11 : x11.size ≤ 200000000 := by
      have : (⟨#[48, 49, 32, 45, 10, 47]⟩ : ByteArray).size = 6 := rfl
      omega
    clear hs11 hg11 hx11
    go_wp2
    go_ret
    exact ⟨_, k11, rfl, ⟨x11, b11, rfl⟩, by omega, S11.out, G11.out⟩
end Go.Proofs.YtihkkaeoijheoaaGreatDoor

