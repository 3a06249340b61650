/- The laws' helper that looks for the markers: its contract. -/
import Derived.Test.YticimccfeohpcaaL4
namespace Go.Proofs.Yticimccfeohpcaa
open Go.ChangeShapes Go.WideShapes Go.ChangeAt Go.RowKit Go.Lb

end Go.Proofs.Yticimccfeohpcaa
