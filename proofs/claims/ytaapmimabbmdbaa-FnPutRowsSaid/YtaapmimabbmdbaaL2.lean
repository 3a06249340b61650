/- The laws' helpers for lists of values: contracts. -/
import Derived.Test.YtaapmimabbmdbaaL1
namespace Go.Proofs.Ytaapmimabbmdbaa
open Go.ChangeShapes Go.WideShapes Go.ChangeAt Go.RowKit Go.Lb

theorem info_val : (Try.prog.info? 25).map (fun i => (i.zero, i.size, i.bytes)) = some (some (.agg #[.int .i64 0, .int .i64 0, .string ⟨#[]⟩]), 3, 32) := by kernel_rfl

end Go.Proofs.Ytaapmimabbmdbaa
