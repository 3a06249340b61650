/- '==' on two values of the program: what the model's operation gives. -/
import Derived.Test.YtgjjkodlmhmjgaaL1
namespace Go.Proofs.Ytgjjkodlmhmjgaa
open Go.ChangeShapes Go.WideShapes Go.ChangeAt Go.RowKit Go.Lb

theorem held_V : Try.prog.stoodInHeld 39 = false := by kernel_rfl
theorem guard_V : Try.prog.eqGuardType Try.prog.depth 39 = false := by kernel_rfl
theorem und_V : Try.prog.underlying 39 = some (.struct (Try.prog.fieldsOf 39)) := by kernel_rfl
theorem eqIn_V (d : Nat) (x y : V) (w : World) : (Op.equalIn (d + 2) 39 (.agg #[.int .i64 x.ty, .int .i64 x.n, .string x.s]) (.agg #[.int .i64 y.ty, .int .i64 y.n, .string y.s])).run Try.prog w = .ok (eqd x y) w := by
  rw [run_equalIn_agg w (d + 1) _ _ _ und_V held_V, V.eq_iff]
  cases h1 : x.ty == y.ty <;> cases h2 : x.n == y.n <;> cases h3 : x.s.toList == y.s.toList <;> simp [Program.fieldsOf, Try.underlying39, go_sem, h1, h2, h3]
theorem eql_V (x y : V) (w : World) : (binOp .eql 39 (.agg #[.int .i64 x.ty, .int .i64 x.n, .string x.s]) (.agg #[.int .i64 y.ty, .int .i64 y.n, .string y.s])).run Try.prog w = .ok (.bool (eqd x y)) w := by
  rw [run_eql_struct w, eqIn_V 9998]
  rfl
theorem neq_V (x y : V) (w : World) : (binOp .neq 39 (.agg #[.int .i64 x.ty, .int .i64 x.n, .string x.s]) (.agg #[.int .i64 y.ty, .int .i64 y.n, .string y.s])).run Try.prog w = .ok (.bool (!eqd x y)) w := by
  rw [run_neq_struct w, eqIn_V 9998]
  rfl
end Go.Proofs.Ytgjjkodlmhmjgaa
