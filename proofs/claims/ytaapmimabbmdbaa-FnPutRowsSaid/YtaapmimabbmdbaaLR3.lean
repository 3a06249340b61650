/- The laws' helpers for lists of rows (and slots): equality, copies: contracts. -/
import Derived.Test.YtaapmimabbmdbaaLR2
namespace Go.Proofs.Ytaapmimabbmdbaa
open Go.Sort Go.ChangeShapes Go.WideShapes Go.ChangeAt Go.RowKit Go.Lb


end Go.Proofs.Ytaapmimabbmdbaa
