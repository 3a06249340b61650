/- Comparisons of values and zones: contracts of the reference's and the program's functions. -/
import Derived.Test.YtnldneogjdljkaaL1
namespace Go.Proofs.Ytnldneogjdljkaa
open Go.ChangeShapes Go.WideShapes Go.ChangeAt Go.RowKit Go.Lb

end Go.Proofs.Ytnldneogjdljkaa
