/- The laws' helpers for rows (and slots): copies, equality: contracts. -/
import Derived.Test.YtaapmimabbmdbaaLR1
namespace Go.Proofs.Ytaapmimabbmdbaa
open Go.Sort Go.ChangeShapes Go.WideShapes Go.ChangeAt Go.RowKit Go.Lb


end Go.Proofs.Ytaapmimabbmdbaa
