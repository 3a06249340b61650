/- Predicates that may hold in zones (the program): contracts. -/
import Derived.Test.YtidmlfjolhnnfaaGreatDoorS32
namespace Go.Proofs.YtidmlfjolhnnfaaGreatDoor
open Go.Sort Go.ChangeShapes Go.WideShapes Go.ChangeAt Go.RowKit Go.Lb

end Go.Proofs.YtidmlfjolhnnfaaGreatDoor
