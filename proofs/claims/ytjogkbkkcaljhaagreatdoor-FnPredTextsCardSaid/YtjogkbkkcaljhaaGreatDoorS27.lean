/- Columns of rows: contracts. -/
import Derived.Test.YtjogkbkkcaljhaaGreatDoorXA
import Derived.Test.YtjogkbkkcaljhaaGreatDoorXL
namespace Go.Proofs.YtjogkbkkcaljhaaGreatDoor
open Go.Sort Go.ChangeShapes Go.WideShapes Go.ChangeAt Go.RowKit Go.Lb

def colAt (k : Int) (r : R) : Option V := if 0 ≤ k then r.l[k.toNat]? else none
def column (l : List R) (k : Int) : List V := l.filterMap (colAt k)
theorem col_step {l : List R} {k : Int} {i : Nat} {y : R} (h : l[i]? = some y) : (l.take (i + 1)).filterMap (colAt k) = (l.take i).filterMap (colAt k) ++ (colAt k y).toList := by
  rw [take_of_get h, List.filterMap_append]
  cases hc : colAt k y <;> simp [hc]
theorem colAt_in {y : R} {j : Nat} {v : V} (h : y.l[j]? = some v) : colAt (j : Int) y = some v := by simp [colAt, h]
theorem colAt_out {y : R} {k : Int} (h : inR k 0 ((y.l.length : Int) - 1) = false) : colAt k y = none := by
  unfold colAt
  split
  · rcases inR_no h with h1 | h1
    · omega
    · exact List.getElem?_eq_none (by omega)
  · rfl
theorem column_len (l : List R) (k : Int) : (column l k).length ≤ l.length := List.length_filterMap_le _ _

end Go.Proofs.YtjogkbkkcaljhaaGreatDoor
