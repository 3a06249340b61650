/- Comparisons of values and zones: contracts of the reference's and the program's functions. -/
import Derived.Test.YtidmlfjolhnnfaaGreatDoorXL
namespace Go.Proofs.YtidmlfjolhnnfaaGreatDoor
open Go.ChangeShapes Go.WideShapes Go.ChangeAt Go.RowKit Go.Lb

theorem spec_LessVal (x y : V) (w : World) :
    Calls Tryz.prog 50 #[.agg #[.int .i64 x.ty, .int .i64 x.n, .string x.s], .agg #[.int .i64 y.ty, .int .i64 y.n, .string y.s]] w fun e w' => e = .returned (.bool (less x y)) ∧ Below w.heap.size w w' := by
  go_enter Tryz.func50, Tryz.ntmps50
  go_wp2
  all_goals
    go_ret
    exact ⟨ret_bool (by simp_all [less, bne]), by repeat (first | exact Below.refl _ _ | refine Below.alloc ?_ (by simp) _)⟩

theorem impl_LessVal (x y : V) (w : World) :
    Calls Tryz.prog 40 #[.agg #[.int .i64 x.ty, .int .i64 x.n, .string x.s], .agg #[.int .i64 y.ty, .int .i64 y.n, .string y.s]] w fun e w' => e = .returned (.bool (less x y)) ∧ Below w.heap.size w w' := by
  go_enter Tryz.func40, Tryz.ntmps40
  go_wp2
  all_goals
    go_ret
    exact ⟨ret_bool (by simp_all [less, bne]), by repeat (first | exact Below.refl _ _ | refine Below.alloc ?_ (by simp) _)⟩

end Go.Proofs.YtidmlfjolhnnfaaGreatDoor
