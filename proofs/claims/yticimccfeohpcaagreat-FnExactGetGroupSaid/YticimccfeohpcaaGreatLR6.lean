/- The laws' markers of one row (or slot): contracts. -/
import Derived.Test.YticimccfeohpcaaGreatLR5
namespace Go.Proofs.YticimccfeohpcaaGreat
open Go.Sort Go.ChangeShapes Go.WideShapes Go.ChangeAt Go.RowKit Go.Lb


end Go.Proofs.YticimccfeohpcaaGreat
