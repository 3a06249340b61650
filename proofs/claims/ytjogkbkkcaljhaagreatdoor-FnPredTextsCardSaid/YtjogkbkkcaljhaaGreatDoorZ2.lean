/- The program's ZoneOf: its contract. -/
import Derived.Test.YtjogkbkkcaljhaaGreatDoorS1
import Derived.Deep.DeepCutAuto
import Derived.RegionTactic
namespace Go.Proofs.YtjogkbkkcaljhaaGreatDoor
open Go.ChangeShapes Go.WideShapes Go.ChangeAt Go.RowKit Go.Lb

theorem zstep_self (x : V) : zstep ⟨x, x⟩ x = ⟨x, x⟩ := by simp [zstep]
theorem zone_eq (l : List V) (x : V) (h : l[0]? = some x) : l.foldl zstep ⟨x, x⟩ = zoneOf l := by
  cases l with
  | nil => simp at h
  | cons a r =>
    simp at h
    subst h
    simp [zoneOf, zstep_self]

end Go.Proofs.YtjogkbkkcaljhaaGreatDoor
