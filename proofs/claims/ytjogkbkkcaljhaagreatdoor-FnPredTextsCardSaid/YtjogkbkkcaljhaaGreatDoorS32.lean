/- Predicates that may hold in zones (the reference): contracts. -/
import Derived.Test.YtjogkbkkcaljhaaGreatDoorS30
import Derived.Test.YtjogkbkkcaljhaaGreatDoorS5
import Derived.Test.YtjogkbkkcaljhaaGreatDoorS6
import Derived.Test.YtjogkbkkcaljhaaGreatDoorYC
namespace Go.Lb
def mcmpAt (l : List Z) (col op : Int) (v : V) : Bool := if inR col 0 ((l.length : Int) - 1) then (match l[col.toNat]? with | some x => mayHold1 op x v | none => false) else false
def fcmpAt (l : List Z) (col op : Int) (v : V) : Bool := if inR col 0 ((l.length : Int) - 1) then (match l[col.toNat]? with | some x => mayHold1 (opposite op) x v | none => true) else true
theorem mcmpAt_in {l : List Z} {j : Nat} {op : Int} {v : V} {x : Z} (h : l[j]? = some x) : mcmpAt l (j : Int) op v = mayHold1 op x v := by
  have hj := (List.getElem?_eq_some_iff.1 h).1
  unfold mcmpAt
  rw [inR_of (by omega) (by omega), if_pos rfl]
  simp [h]
theorem mcmpAt_out {l : List Z} {col op : Int} {v : V} (h : inR col 0 ((l.length : Int) - 1) = false) : mcmpAt l col op v = false := by
  unfold mcmpAt
  rw [h]; rfl
theorem fcmpAt_in {l : List Z} {j : Nat} {op : Int} {v : V} {x : Z} (h : l[j]? = some x) : fcmpAt l (j : Int) op v = mayHold1 (opposite op) x v := by
  have hj := (List.getElem?_eq_some_iff.1 h).1
  unfold fcmpAt
  rw [inR_of (by omega) (by omega), if_pos rfl]
  simp [h]
theorem fcmpAt_out {l : List Z} {col op : Int} {v : V} (h : inR col 0 ((l.length : Int) - 1) = false) : fcmpAt l col op v = true := by
  unfold fcmpAt
  rw [h]; rfl
mutual
def mayP (l : List Z) : P → Bool
  | .mk kind col op v ps => if kind = 1 then true else if kind = 2 then mcmpAt l col op v else if kind = 3 then allM l ps else if kind = 4 then anyM l ps else if kind = 5 then fstF l ps else false
def failP (l : List Z) : P → Bool
  | .mk kind col op v ps => if kind = 1 then false else if kind = 2 then fcmpAt l col op v else if kind = 3 then anyF l ps else if kind = 4 then allF l ps else if kind = 5 then fstM l ps else true
def allM (l : List Z) : List P → Bool
  | [] => true
  | p :: r => mayP l p && allM l r
def anyM (l : List Z) : List P → Bool
  | [] => false
  | p :: r => mayP l p || anyM l r
def fstM (l : List Z) : List P → Bool
  | [] => true
  | p :: _ => mayP l p
def allF (l : List Z) : List P → Bool
  | [] => true
  | p :: r => failP l p && allF l r
def anyF (l : List Z) : List P → Bool
  | [] => false
  | p :: r => failP l p || anyF l r
def fstF (l : List Z) : List P → Bool
  | [] => true
  | p :: _ => failP l p
end
def fstP (f : P → Bool) : List P → Bool
  | [] => true
  | p :: _ => f p
theorem fstP_of {f : P → Bool} {ps : List P} {x : P} (h : ps[0]? = some x) : fstP f ps = f x := by
  cases ps with
  | nil => simp at h
  | cons y r => simp at h; subst h; rfl
theorem allM_eq (l : List Z) (ps : List P) : allM l ps = ps.all (mayP l) := by
  induction ps with
  | nil => rw [allM]; rfl
  | cons p r ih => rw [allM, ih, List.all_cons]
theorem anyM_eq (l : List Z) (ps : List P) : anyM l ps = ps.any (mayP l) := by
  induction ps with
  | nil => rw [anyM]; rfl
  | cons p r ih => rw [anyM, ih, List.any_cons]
theorem allF_eq (l : List Z) (ps : List P) : allF l ps = ps.all (failP l) := by
  induction ps with
  | nil => rw [allF]; rfl
  | cons p r ih => rw [allF, ih, List.all_cons]
theorem anyF_eq (l : List Z) (ps : List P) : anyF l ps = ps.any (failP l) := by
  induction ps with
  | nil => rw [anyF]; rfl
  | cons p r ih => rw [anyF, ih, List.any_cons]
theorem fstM_eq (l : List Z) (ps : List P) : fstM l ps = fstP (mayP l) ps := by cases ps <;> rw [fstM] <;> rfl
theorem fstF_eq (l : List Z) (ps : List P) : fstF l ps = fstP (failP l) ps := by cases ps <;> rw [fstF] <;> rfl
theorem mayP_eq (l : List Z) (p : P) : mayP l p = if p.kind = 1 then true else if p.kind = 2 then mcmpAt l p.col p.op p.v else if p.kind = 3 then p.l.all (mayP l) else if p.kind = 4 then p.l.any (mayP l) else if p.kind = 5 then fstP (failP l) p.l else false := by
  cases p with
  | mk kind col op v ps =>
    rw [mayP, allM_eq, anyM_eq, fstF_eq]
    rfl
theorem failP_eq (l : List Z) (p : P) : failP l p = if p.kind = 1 then false else if p.kind = 2 then fcmpAt l p.col p.op p.v else if p.kind = 3 then p.l.any (failP l) else if p.kind = 4 then p.l.all (failP l) else if p.kind = 5 then fstP (mayP l) p.l else true := by
  cases p with
  | mk kind col op v ps =>
    rw [failP, allF_eq, anyF_eq, fstM_eq]
    rfl
end Go.Lb
namespace Go.Proofs.YtjogkbkkcaljhaaGreatDoor
open Go.Sort Go.ChangeShapes Go.WideShapes Go.ChangeAt Go.RowKit Go.Lb

end Go.Proofs.YtjogkbkkcaljhaaGreatDoor
