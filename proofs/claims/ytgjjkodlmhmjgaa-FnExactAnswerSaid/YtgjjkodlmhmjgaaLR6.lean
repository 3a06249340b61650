/- The laws' markers of one row (or slot): contracts. -/
import Derived.Test.YtgjjkodlmhmjgaaLR5
namespace Go.Proofs.Ytgjjkodlmhmjgaa
open Go.Sort Go.ChangeShapes Go.WideShapes Go.ChangeAt Go.RowKit Go.Lb


end Go.Proofs.Ytgjjkodlmhmjgaa
