/- The laws' helpers for queries: marks: contracts. -/
import Derived.Test.YtmnmnofjeoanjaaDoorLQ
import Derived.Test.YtmnmnofjeoanjaaDoorLP4
namespace Go.Proofs.YtmnmnofjeoanjaaDoor
open Go.Sort Go.ChangeShapes Go.WideShapes Go.ChangeAt Go.RowKit Go.Lb

end Go.Proofs.YtmnmnofjeoanjaaDoor
