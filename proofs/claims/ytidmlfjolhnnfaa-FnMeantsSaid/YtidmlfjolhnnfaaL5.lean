/- The laws' helper that looks for the markers: its contract. -/
import Derived.Test.YtidmlfjolhnnfaaL4
namespace Go.Proofs.Ytidmlfjolhnnfaa
open Go.ChangeShapes Go.WideShapes Go.ChangeAt Go.RowKit Go.Lb

end Go.Proofs.Ytidmlfjolhnnfaa
