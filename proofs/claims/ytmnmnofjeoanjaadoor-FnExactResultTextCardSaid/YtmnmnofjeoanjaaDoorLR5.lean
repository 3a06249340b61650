/- The laws' markers of lists of rows (and slots): contracts. -/
import Derived.Test.YtmnmnofjeoanjaaDoorXL
import Derived.Test.YtmnmnofjeoanjaaDoorL5
namespace Go.Proofs.YtmnmnofjeoanjaaDoor
open Go.Sort Go.ChangeShapes Go.WideShapes Go.ChangeAt Go.RowKit Go.Lb

def marksVs (k : Int) (n : Nat) : List V := (List.range n).map (mkV mkText k)
theorem marksVs_len (k : Int) (n : Nat) : (marksVs k n).length = n := by simp [marksVs]
theorem marksVs_cells (k : Int) (n : Nat) : (marksVs k n).flatMap V.cells = marksV k n := by
  unfold marksVs marksV
  rw [List.flatMap_map]
  rfl
def markRs (k : Int) : List R → List R
  | [] => []
  | r :: l => ⟨k, marksVs (k + 1) r.l.length⟩ :: markRs (k + 1 + 3 * (r.l.length : Nat)) l
def markR1 (k : Int) (y : R) : R := ⟨k, marksVs (k + 1) y.l.length⟩
theorem markRs_snoc : ∀ (a : List R) (y : R) (k : Int), markRs k (a ++ [y]) = markRs k a ++ [markR1 (k + cntR a) y]
  | [], y, k => by simp [markRs, markR1, cntR]
  | r :: l, y, k => by
    simp only [List.cons_append, markRs]
    rw [markRs_snoc l y]
    have : k + 1 + 3 * (r.l.length : Int) + (cntR l : Int) = k + (cntR (r :: l) : Int) := by simp [cntR]; omega
    rw [this]
theorem markRs_take {l : List R} {j : Nat} {y : R} (k : Int) (h : l[j]? = some y) : markRs k (l.take (j + 1)) = markRs k (l.take j) ++ [markR1 (k + cntR (l.take j)) y] := by rw [take_of_get h, markRs_snoc]
theorem markRs_len : ∀ (l : List R) (k : Int), (markRs k l).length = l.length
  | [], _ => rfl
  | r :: l, k => by simp [markRs, markRs_len l]
theorem markRs_get : ∀ (l : List R) (j : Nat) (y : R) (k : Int), l[j]? = some y → (markRs k l)[j]? = some (markR1 (k + cntR (l.take j)) y)
  | [], j, y, k, h => by simp at h
  | r :: l, 0, y, k, h => by simp at h; subst h; simp [markRs, markR1, cntR]
  | r :: l, j + 1, y, k, h => by
    simp only [List.getElem?_cons_succ, markRs, List.take_succ_cons] at h ⊢
    rw [markRs_get l j y _ h]
    have : k + 1 + 3 * (r.l.length : Int) + (cntR (l.take j) : Int) = k + (cntR (r :: l.take j) : Int) := by simp [cntR]; omega
    rw [this]

end Go.Proofs.YtmnmnofjeoanjaaDoor
