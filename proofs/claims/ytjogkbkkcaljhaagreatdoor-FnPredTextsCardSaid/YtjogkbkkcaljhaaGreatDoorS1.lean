/- Comparisons of values and zones: contracts of the reference's and the program's functions. -/
import Derived.Test.YtjogkbkkcaljhaaGreatDoorXL
namespace Go.Proofs.YtjogkbkkcaljhaaGreatDoor
open Go.ChangeShapes Go.WideShapes Go.ChangeAt Go.RowKit Go.Lb

end Go.Proofs.YtjogkbkkcaljhaaGreatDoor
