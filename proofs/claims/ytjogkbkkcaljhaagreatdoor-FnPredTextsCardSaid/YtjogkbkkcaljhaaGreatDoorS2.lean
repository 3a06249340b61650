/- Zones: contracts of the reference's and the program's functions. -/
import Derived.Test.YtjogkbkkcaljhaaGreatDoorS1
namespace Go.Proofs.YtjogkbkkcaljhaaGreatDoor
open Go.ChangeShapes Go.WideShapes Go.ChangeAt Go.RowKit Go.Lb

end Go.Proofs.YtjogkbkkcaljhaaGreatDoor
