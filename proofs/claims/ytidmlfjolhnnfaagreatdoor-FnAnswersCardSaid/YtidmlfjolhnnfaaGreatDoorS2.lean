/- Zones: contracts of the reference's and the program's functions. -/
import Derived.Test.YtidmlfjolhnnfaaGreatDoorS1
namespace Go.Proofs.YtidmlfjolhnnfaaGreatDoor
open Go.ChangeShapes Go.WideShapes Go.ChangeAt Go.RowKit Go.Lb

end Go.Proofs.YtidmlfjolhnnfaaGreatDoor
