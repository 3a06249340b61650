/- Opposite: contracts of the reference's and the program's function. -/
import Derived.Test.YtjogkbkkcaljhaaGreatDoorXA
namespace Go.Proofs.YtjogkbkkcaljhaaGreatDoor
open Go.ChangeShapes Go.WideShapes Go.ChangeAt Go.RowKit Go.Lb

end Go.Proofs.YtjogkbkkcaljhaaGreatDoor
