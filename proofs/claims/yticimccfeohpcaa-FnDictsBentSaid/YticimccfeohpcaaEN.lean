/- Plain decodings: contracts. -/
import Derived.Test.YticimccfeohpcaaEM
namespace Go.Proofs.Yticimccfeohpcaa
open Go.Sort Go.ChangeShapes Go.WideShapes Go.ChangeAt Go.RowKit Go.Lb
end Go.Proofs.Yticimccfeohpcaa
