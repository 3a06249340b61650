/- The laws' helpers for predicates: equality of one with itself: contracts. -/
import Derived.Test.YtidmlfjolhnnfaaGreatDoorMemP
import Derived.Test.YtidmlfjolhnnfaaGreatDoorXL
import Derived.Test.YtidmlfjolhnnfaaGreatDoorXA
import Derived.Test.YtidmlfjolhnnfaaGreatDoorYA
import Derived.Test.YtidmlfjolhnnfaaGreatDoorXG
namespace Go.Proofs.YtidmlfjolhnnfaaGreatDoor
open Go.Sort Go.ChangeShapes Go.WideShapes Go.ChangeAt Go.RowKit Go.Lb

end Go.Proofs.YtidmlfjolhnnfaaGreatDoor
namespace Go.Proofs.YtidmlfjolhnnfaaGreatDoor
open Go.ChangeShapes Go.WideShapes Go.ChangeAt Go.RowKit Go.Lb

def marksI (k : Int) (n : Nat) : List Value := (List.range n).map fun i : Nat => Value.int .i64 (k + (i : Int))
theorem marksI_succ (k : Int) (n : Nat) : marksI k (n + 1) = marksI k n ++ [.int .i64 (k + n)] := by simp [marksI, List.range_succ]
theorem marksI_len (k : Int) (n : Nat) : (marksI k n).length = n * 1 := by simp [marksI]
theorem marksI_get (k : Int) (n i : Nat) (hi : i < n) : (marksI k n)[i]? = some (.int .i64 (k + i)) := by simp [marksI, hi]
theorem take_set1 {l : List Value} {k : Nat} {v : Value} (h : k < l.length) : (l.set k v).take (k + 1) = l.take k ++ [v] := by
  rw [List.take_succ_eq_append_getElem (by simpa using h)]
  simp [List.take_set_of_le]

end Go.Proofs.YtidmlfjolhnnfaaGreatDoor
namespace Go.Proofs.YtidmlfjolhnnfaaGreatDoor
open Go.ChangeShapes Go.WideShapes Go.ChangeAt Go.RowKit Go.Lb

end Go.Proofs.YtidmlfjolhnnfaaGreatDoor
namespace Go.Proofs.YtidmlfjolhnnfaaGreatDoor
open Go.Sort Go.ChangeShapes Go.WideShapes Go.ChangeAt Go.RowKit Go.Lb

end Go.Proofs.YtidmlfjolhnnfaaGreatDoor
