/- Predicates that may hold in zones (the program): contracts. -/
import Derived.Test.YtjogkbkkcaljhaaGreatDoorS32
namespace Go.Proofs.YtjogkbkkcaljhaaGreatDoor
open Go.Sort Go.ChangeShapes Go.WideShapes Go.ChangeAt Go.RowKit Go.Lb

end Go.Proofs.YtjogkbkkcaljhaaGreatDoor
