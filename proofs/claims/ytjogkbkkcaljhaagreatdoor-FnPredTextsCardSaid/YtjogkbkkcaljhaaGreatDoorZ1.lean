/- The reference's ZoneOf: its contract. -/
import Derived.Test.YtjogkbkkcaljhaaGreatDoorS1
import Derived.Deep.DeepCutAuto
namespace Go.Proofs.YtjogkbkkcaljhaaGreatDoor
open Go.ChangeShapes Go.WideShapes Go.ChangeAt Go.RowKit Go.Lb

theorem foldz_snoc (l : List V) (k : Nat) (x : V) (h : l[k]? = some x) (hk : 0 < k) : zoneOf (l.take (k + 1)) = zstep (zoneOf (l.take k)) x := by
  rw [take_of_get h]
  cases hl : l.take k with
  | nil =>
    have h1 := congrArg List.length hl
    have h2 := (List.getElem?_eq_some_iff.1 h).1
    rw [List.length_take, List.length_nil] at h1
    omega
  | cons a r => simp [zoneOf, List.foldl_append]
theorem foldz_one (l : List V) (x : V) (h : l[0]? = some x) : zoneOf (l.take 1) = ⟨x, x⟩ := by
  rw [take_of_get h]; simp [zoneOf]

end Go.Proofs.YtjogkbkkcaljhaaGreatDoor
