/- '==' on two zones that are the same: what the model's operation gives. -/
import Derived.Test.YtaapmimabbmdbaaS3
namespace Go.Proofs.Ytaapmimabbmdbaa
open Go.ChangeShapes Go.WideShapes Go.ChangeAt Go.RowKit Go.Lb

theorem held_Z : Try.prog.stoodInHeld 34 = false := by kernel_rfl
theorem guard_Z : Try.prog.eqGuardType Try.prog.depth 34 = false := by kernel_rfl
theorem und_Z : Try.prog.underlying 34 = some (.struct (Try.prog.fieldsOf 34)) := by kernel_rfl
theorem neqZ_self (z : Z) (w : World) : (binOp .neq 34 (.agg #[.int .i64 z.lo.ty, .int .i64 z.lo.n, .string z.lo.s, .int .i64 z.hi.ty, .int .i64 z.hi.n, .string z.hi.s]) (.agg #[.int .i64 z.lo.ty, .int .i64 z.lo.n, .string z.lo.s, .int .i64 z.hi.ty, .int .i64 z.hi.n, .string z.hi.s])).run Try.prog w = .ok (.bool false) w := by
  rw [run_neq_struct w, run_equalIn_agg w 9999 _ _ _ und_Z held_Z]
  simp [Program.fieldsOf, Try.underlying34, go_sem]
end Go.Proofs.Ytaapmimabbmdbaa
