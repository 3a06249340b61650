/- The laws' helpers for predicates: marks: contracts (what is marked is not looked at again). -/
import Derived.Test.YtmnmnofjeoanjaaDoorLP1
import Derived.Test.YtmnmnofjeoanjaaDoorLP2
import Derived.Test.YtmnmnofjeoanjaaDoorL4
namespace Go.Lb
open Go.RowKit
theorem hdr_set {cur : Array Value} {ps : List (P × Value)} {i j : Nat} {u : Value} (h : ∀ (k : Nat) (p : P × Value), ps[k]? = some p → cur[k * 7 + 6]? = some p.2) (hj : j < 6) : ∀ (k : Nat) (p : P × Value), ps[k]? = some p → (cur.setIfInBounds (i * 7 + j) u)[k * 7 + 6]? = some p.2 := fun k p hp => by
  rw [Array.getElem?_setIfInBounds_ne (by omega)]
  exact h k p hp
end Go.Lb
namespace Go.Proofs.YtmnmnofjeoanjaaDoor
open Go.Sort Go.ChangeShapes Go.WideShapes Go.ChangeAt Go.RowKit Go.Lb

end Go.Proofs.YtmnmnofjeoanjaaDoor
