/- The laws' helper that looks for the markers: its contract. -/
import Derived.Test.YtmnmnofjeoanjaaDoorL4
namespace Go.Proofs.YtmnmnofjeoanjaaDoor
open Go.ChangeShapes Go.WideShapes Go.ChangeAt Go.RowKit Go.Lb

end Go.Proofs.YtmnmnofjeoanjaaDoor
