/- Predicates that hold for rows: contracts. -/
import Derived.Test.YtjogkbkkcaljhaaGreatDoorMemP
import Derived.Test.YtjogkbkkcaljhaaGreatDoorS4
import Derived.Test.YtjogkbkkcaljhaaGreatDoorXA
namespace Go.Lb
def cmpAt (l : List V) (col op : Int) (v : V) : Bool := if inR col 0 ((l.length : Int) - 1) then (match l[col.toNat]? with | some x => holds1 op x v | none => false) else false
mutual
def holdsP (l : List V) : P → Bool
  | .mk kind col op v ps => if kind = 1 then true else if kind = 2 then cmpAt l col op v else if kind = 3 then allH l ps else if kind = 4 then anyH l ps else if kind = 5 then notH l ps else false
def allH (l : List V) : List P → Bool
  | [] => true
  | p :: r => holdsP l p && allH l r
def anyH (l : List V) : List P → Bool
  | [] => false
  | p :: r => holdsP l p || anyH l r
def notH (l : List V) : List P → Bool
  | [] => true
  | p :: _ => !holdsP l p
end
theorem allH_eq (l : List V) (ps : List P) : allH l ps = ps.all (holdsP l) := by
  induction ps with
  | nil => rw [allH]; rfl
  | cons p r ih => rw [allH, ih, List.all_cons]
theorem anyH_eq (l : List V) (ps : List P) : anyH l ps = ps.any (holdsP l) := by
  induction ps with
  | nil => rw [anyH]; rfl
  | cons p r ih => rw [anyH, ih, List.any_cons]
theorem holdsP_eq (l : List V) (p : P) : holdsP l p = if p.kind = 1 then true else if p.kind = 2 then cmpAt l p.col p.op p.v else if p.kind = 3 then p.l.all (holdsP l) else if p.kind = 4 then p.l.any (holdsP l) else if p.kind = 5 then notH l p.l else false := by
  cases p with
  | mk kind col op v ps =>
    rw [holdsP, allH_eq, anyH_eq]
    rfl
theorem cmpAt_in {l : List V} {j : Nat} {op : Int} {v x : V} (h : l[j]? = some x) : cmpAt l (j : Int) op v = holds1 op x v := by
  have hj := (List.getElem?_eq_some_iff.1 h).1
  unfold cmpAt
  rw [inR_of (by omega) (by omega), if_pos rfl]
  simp [h]
theorem cmpAt_out {l : List V} {col op : Int} {v : V} (h : inR col 0 ((l.length : Int) - 1) = false) : cmpAt l col op v = false := by
  unfold cmpAt
  rw [h]; rfl
theorem all_no {α : Type} {l : List α} {f : α → Bool} {k : Nat} {x : α} (h : l[k]? = some x) (hx : f x = false) : l.all f = false := by
  rw [List.all_eq_false]
  exact ⟨x, mem_of_get h, by simp [hx]⟩
theorem all_step {α : Type} {l : List α} {f : α → Bool} {k : Nat} {x : α} (h : l[k]? = some x) (ha : (l.take k).all f = true) (hx : f x = true) : (l.take (k + 1)).all f = true := by
  rw [take_of_get h, List.all_append, ha]
  simp [hx]
theorem all_end {α : Type} {l : List α} {f : α → Bool} (ha : (l.take l.length).all f = true) : l.all f = true := by rwa [List.take_length] at ha
theorem any_yes {α : Type} {l : List α} {f : α → Bool} {k : Nat} {x : α} (h : l[k]? = some x) (hx : f x = true) : l.any f = true := List.any_eq_true.2 ⟨x, mem_of_get h, hx⟩
theorem any_step {α : Type} {l : List α} {f : α → Bool} {k : Nat} {x : α} (h : l[k]? = some x) (ha : (l.take k).any f = false) (hx : f x = false) : (l.take (k + 1)).any f = false := by
  rw [take_of_get h, List.any_append, ha]
  simp [hx]
theorem any_end {α : Type} {l : List α} {f : α → Bool} (ha : (l.take l.length).any f = false) : l.any f = false := by rwa [List.take_length] at ha
end Go.Lb
namespace Go.Proofs.YtjogkbkkcaljhaaGreatDoor
open Go.Sort Go.ChangeShapes Go.WideShapes Go.ChangeAt Go.RowKit Go.Lb

end Go.Proofs.YtjogkbkkcaljhaaGreatDoor
