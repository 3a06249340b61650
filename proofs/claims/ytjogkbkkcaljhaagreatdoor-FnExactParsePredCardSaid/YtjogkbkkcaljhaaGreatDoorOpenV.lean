/- The laws' arguments opened: values, zones, lists of values and numbers. -/
import Derived.Test.YtjogkbkkcaljhaaGreatDoorXA
namespace Go.Proofs.YtjogkbkkcaljhaaGreatDoor
open Go.RowKit Go.ChangeShapes Go.WideShapes Go.Deep Go.Lb

section
variable {H : Type} {enc : TypeId × Value → H} {w : World} {base : Nat} {spare : Nat → Bool} {held : Bool} {n : Nat} {cs : List Value} {x : DataW H × List MemPlace}

end
end Go.Proofs.YtjogkbkkcaljhaaGreatDoor
