/- Rows in order that fit their columns: contracts. -/
import Derived.Test.YtidmlfjolhnnfaaS23
namespace Go.Proofs.Ytidmlfjolhnnfaa
open Go.Sort Go.ChangeShapes Go.WideShapes Go.ChangeAt Go.RowKit Go.Lb

def prevAt (l : List R) (k : Nat) : Option R := if k = 0 then none else l[k - 1]?
def okAt (cols : List Int) (p : Option R) (r : R) : Bool := rowOk cols r && (decide (r.id ≤ 1000000000) && (match p with | none => true | some q => decide (q.id < r.id)))
def okNo (cols : List Int) (l : List R) (k : Nat) : Bool := match l[k]? with | some r => okAt cols (prevAt l k) r | none => true
def rowsOk (cols : List Int) (l : List R) : Bool := colsOk cols && (decide (l.length ≤ 12) && (List.range l.length).all (okNo cols l))
theorem okNo_of {cols : List Int} {l : List R} {k : Nat} {y : R} (h : l[k]? = some y) : okNo cols l k = okAt cols (prevAt l k) y := by simp [okNo, h]
theorem rows_no {cols : List Int} {l : List R} {k : Nat} {y : R} (h : l[k]? = some y) (h1 : okAt cols (prevAt l k) y = false) : rowsOk cols l = false := by
  have hk : k < l.length := (List.getElem?_eq_some_iff.1 h).1
  have h2 : (List.range l.length).all (okNo cols l) = false := by
    rw [List.all_eq_false]
    exact ⟨k, by simpa using hk, by rw [okNo_of h, h1]; simp⟩
  simp [rowsOk, h2]
theorem rows_step {cols : List Int} {l : List R} {k : Nat} {y : R} (h : l[k]? = some y) (h1 : okAt cols (prevAt l k) y = true) (ha : (List.range k).all (okNo cols l) = true) : (List.range (k + 1)).all (okNo cols l) = true := by
  rw [List.range_succ, List.all_append, ha]
  simp [okNo_of h, h1]
theorem rows_end {cols : List Int} {l : List R} (h : (List.range l.length).all (okNo cols l) = true) : rowsOk cols l = (colsOk cols && decide (l.length ≤ 12)) := by simp [rowsOk, h]
theorem prevAt_zero (l : List R) : prevAt l 0 = none := rfl
theorem prevAt_succ (l : List R) (j : Nat) : prevAt l (j + 1) = l[j]? := by simp [prevAt]

end Go.Proofs.Ytidmlfjolhnnfaa
