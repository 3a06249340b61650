/- The laws' markers of one row (or slot): contracts. -/
import Derived.Test.YtmnmnofjeoanjaaDoorLR5
namespace Go.Proofs.YtmnmnofjeoanjaaDoor
open Go.Sort Go.ChangeShapes Go.WideShapes Go.ChangeAt Go.RowKit Go.Lb


end Go.Proofs.YtmnmnofjeoanjaaDoor
