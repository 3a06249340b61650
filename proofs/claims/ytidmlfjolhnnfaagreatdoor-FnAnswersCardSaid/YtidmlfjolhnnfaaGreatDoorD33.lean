/- Draws: what the law on predicates draws. -/
import Derived.Test.YtidmlfjolhnnfaaGreatDoorD32
import Derived.Test.YtidmlfjolhnnfaaGreatDoorXD
namespace Go.Lb
theorem rsok_sm {l : List R} (h : SmallR l) : RsOk l := fun r hr v hv => Nat.le_trans ((h r hr).2 v hv) (by decide)
end Go.Lb
namespace Go.Proofs.YtidmlfjolhnnfaaGreatDoor
open Go.Sort Go.ChangeShapes Go.WideShapes Go.ChangeAt Go.RowKit Go.Lb
theorem lensR_sm : ∀ {l : List R}, SmallR l → lensR l ≤ 4 * l.length
  | [], _ => by simp [lensR]
  | r :: l, h => by
    have h1 := (h r (by simp)).1
    have h2 := lensR_sm (l := l) fun x hx => h x (by simp [hx])
    simp only [lensR, List.map_cons, List.sum_cons, List.length_cons] at h2 ⊢
    omega
theorem chg_low {w w' : World} {g b : Nat} {x : Obj} (hx : w.heap[b]? = some x) (h : Chg g (g + 1) w w') (hb : b < g) : w'.heap[b]? = some x :=
  (h.block b (Array.getElem?_eq_some_iff.1 hx).1 (.inl hb)).trans hx
end Go.Proofs.YtidmlfjolhnnfaaGreatDoor
