/- The number of cells of joined results. No conditions; nothing here speaks of the program. -/
import Derived.Test.YtgjjkodlmhmjgaaS44
import Derived.Test.YtgjjkodlmhmjgaaLR1
namespace Go.Proofs.Ytgjjkodlmhmjgaa
open Go.RowKit Go.Lb
theorem cntR_app (a b : List R) : cntR (a ++ b) = cntR a + cntR b := by simp [cntR]
theorem joined_rows (q : Q) (a b : Res) : (joined q a b).rows = a.rows ++ b.rows := by
  unfold joined
  split
  · rfl
  · split <;> rfl
theorem joined_bd (q : Q) (a b : Res) : cntR (joined q a b).rows ≤ cntR a.rows + cntR b.rows := by rw [joined_rows, cntR_app]; exact Nat.le_refl _
end Go.Proofs.Ytgjjkodlmhmjgaa
