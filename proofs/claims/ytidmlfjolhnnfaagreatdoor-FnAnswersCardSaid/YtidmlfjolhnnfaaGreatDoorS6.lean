/- Opposite: contracts of the reference's and the program's function. -/
import Derived.Test.YtidmlfjolhnnfaaGreatDoorXA
namespace Go.Proofs.YtidmlfjolhnnfaaGreatDoor
open Go.ChangeShapes Go.WideShapes Go.ChangeAt Go.RowKit Go.Lb

end Go.Proofs.YtidmlfjolhnnfaaGreatDoor
