/- Comparisons of values and zones: contracts of the reference's and the program's functions. -/
import Derived.Test.YticimccfeohpcaaGreatXL
namespace Go.Proofs.YticimccfeohpcaaGreat
open Go.ChangeShapes Go.WideShapes Go.ChangeAt Go.RowKit Go.Lb

theorem spec_LessVal (x y : V) (w : World) :
    Calls Tryz.prog 177 #[.agg #[.int .i64 x.ty, .int .i64 x.n, .string x.s], .agg #[.int .i64 y.ty, .int .i64 y.n, .string y.s]] w fun e w' => e = .returned (.bool (less x y)) ∧ Below w.heap.size w w' := by
  go_enter Tryz.func177, Tryz.ntmps177
  go_wp2
  all_goals
    go_ret
    exact ⟨ret_bool (by simp_all [less, bne]), by repeat (first | exact Below.refl _ _ | refine Below.alloc ?_ (by simp) _)⟩

theorem impl_LessVal (x y : V) (w : World) :
    Calls Tryz.prog 185 #[.agg #[.int .i64 x.ty, .int .i64 x.n, .string x.s], .agg #[.int .i64 y.ty, .int .i64 y.n, .string y.s]] w fun e w' => e = .returned (.bool (less x y)) ∧ Below w.heap.size w w' := by
  go_enter Tryz.func185, Tryz.ntmps185
  go_wp2
  all_goals
    go_ret
    exact ⟨ret_bool (by simp_all [less, bne]), by repeat (first | exact Below.refl _ _ | refine Below.alloc ?_ (by simp) _)⟩

end Go.Proofs.YticimccfeohpcaaGreat
