/- Holds1: contracts of the reference's and the program's function. -/
import Derived.Test.YtjogkbkkcaljhaaGreatDoorS2
import Derived.Test.YtjogkbkkcaljhaaGreatDoorXL
namespace Go.Proofs.YtjogkbkkcaljhaaGreatDoor
open Go.ChangeShapes Go.WideShapes Go.ChangeAt Go.RowKit Go.Lb

end Go.Proofs.YtjogkbkkcaljhaaGreatDoor
