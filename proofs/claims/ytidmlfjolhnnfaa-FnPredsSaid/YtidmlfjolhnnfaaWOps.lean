/- The law FnOps returns true for every input: the walk. -/
import Derived.Test.YtidmlfjolhnnfaaXD
import Derived.Test.YtidmlfjolhnnfaaS4
import Derived.Test.YtidmlfjolhnnfaaS6
import Derived.Test.YtidmlfjolhnnfaaS39
import Derived.Test.YtidmlfjolhnnfaaXL
namespace Go.Lb
theorem ops_out {op : Int} (h : op < 1 ∨ 6 < op) (a b : V) : opposite op = 0 ∧ holds1 op a b = false := by
  unfold opposite holds1
  iterate 6 rw [if_neg (by omega)]
  iterate 6 rw [if_neg (by omega)]
  exact ⟨rfl, rfl⟩
theorem ops_in {op : Int} (h1 : 1 ≤ op) (h2 : op ≤ 6) (a b : V) : opposite (opposite op) = op ∧ (holds1 op a b != holds1 (opposite op) a b) = true := by
  obtain rfl | rfl | rfl | rfl | rfl | rfl : op = 1 ∨ op = 2 ∨ op = 3 ∨ op = 4 ∨ op = 5 ∨ op = 6 := by omega
  all_goals
    simp [opposite, holds1]
end Go.Lb
namespace Go.Proofs.Ytidmlfjolhnnfaa
open Go.Sort Go.ChangeShapes Go.WideShapes Go.ChangeAt Go.RowKit Go.Lb

end Go.Proofs.Ytidmlfjolhnnfaa
