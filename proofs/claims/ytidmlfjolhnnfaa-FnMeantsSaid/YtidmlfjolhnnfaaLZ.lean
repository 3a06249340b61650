/- The laws' helpers for zones: contracts. -/
import Derived.Test.YtidmlfjolhnnfaaXL
namespace Go.Proofs.Ytidmlfjolhnnfaa
open Go.ChangeShapes Go.WideShapes Go.ChangeAt Go.RowKit Go.Lb

def szZone (z : Z) (left : Int) : Int := if szVal z.lo left < 0 then -1 else if szVal z.hi (szVal z.lo left) < 0 then -1 else szVal z.hi (szVal z.lo left)
theorem szZone_le (z : Z) (left : Int) (h0 : 0 ≤ left) (h : left ≤ 1048576) : szZone z left ≤ 1048576 := by
  have h1 := szVal_le z.lo left h0 h
  unfold szZone
  split
  · omega
  · have h2 := szVal_le z.hi (szVal z.lo left) (by omega) h1
    split <;> omega
theorem szZone_bd (z : Z) (left : Int) (_h0 : 0 ≤ left) (_h : left ≤ 1048576) : ¬ szZone z left < 0 → True := fun _ => trivial

end Go.Proofs.Ytidmlfjolhnnfaa
