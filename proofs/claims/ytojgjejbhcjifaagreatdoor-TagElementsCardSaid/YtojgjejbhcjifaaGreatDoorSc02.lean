/- Texts packed: WpS. -/
import Derived.Test.YtojgjejbhcjifaaGreatDoorSc01
/- Words divided into lines, in plain words. No program in sight. -/
namespace Go.Proofs.YtojgjejbhcjifaaGreatDoor
set_option linter.unusedVariables false
open Go.RowKit

/-- Lines full, and the line at hand. -/
structure Wst where
  out : List (List UInt8)
  cur : List UInt8
def Wst.all (st : Wst) : List (List UInt8) := st.out ++ (if st.cur = [] then [] else [st.cur])
def Wst.ok (st : Wst) : Prop := st.cur = [] → st.out = []
theorem all_nil {st : Wst} (h : st.ok) : st.all = [] ↔ st.cur = [] := by
  unfold Wst.all
  by_cases hc : st.cur = []
  · rw [h hc, if_pos hc]; simp [hc]
  · rw [if_neg hc]; simp [hc]
end Go.Proofs.YtojgjejbhcjifaaGreatDoor

