/- The law FnExactKindText: its walk, out of the contracts of what it calls. -/
import Derived.Test.YtphbkghokhlnbaaS7
namespace Go.Proofs.Ytphbkghokhlnbaa
open Go.ChangeShapes Go.WideShapes Go.ChangeAt Go.RowKit Go.Lb

set_option maxRecDepth 20000 in
set_option maxHeartbeats 4000000 in
theorem wKindText (aN : Int) (w : World)  :
    Calls Try.prog 3 #[.int .i64 aN] w fun e w' => e = .returned (.bool true) ∧ Below w.heap.size w w' := by
  have hB : Below w.heap.size w w := Below.refl _ _
  go_enter Try.func3, Try.ntmps3
  go_wp2_with fail
  refine (spec_KindText aN _  ).mono ?_
  rintro e w1 ⟨rfl, hb⟩
  have b0 : Below w.heap.size w w1 := hb
  have z0 := b0.size
  replace hB := hB.trans (b0.mono hB.size)
  clear hb b0
  go_wp2_with fail
  refine (impl_KindText aN _  ).mono ?_
  rintro e w2 ⟨rfl, hb⟩
  have b1 : Below w1.heap.size w1 w2 := hb
  have z1 := b1.size
  replace hB := hB.trans (b1.mono hB.size)
  clear hb b1
  go_wp2_with fail
  go_ret
  exact ⟨rfl, hB⟩

end Go.Proofs.Ytphbkghokhlnbaa
