/- The laws' markers of one row (or slot): contracts. -/
import Derived.Test.YtphbkghokhlnbaaLR5
namespace Go.Proofs.Ytphbkghokhlnbaa
open Go.Sort Go.ChangeShapes Go.WideShapes Go.ChangeAt Go.RowKit Go.Lb

set_option maxHeartbeats 1000000 in
theorem markRow_c (x : R) (sv : Value) (k : Int) (w : World) {lo hi : Nat} (hown : Own 32 3 w lo hi sv x.l.length (x.l.flatMap V.cells)) (hhi : hi ≤ w.heap.size) (hk0 : 1 ≤ k) (hk : k + 3 * (x.l.length : Nat) ≤ 100000000) :
    Calls Try.prog 51 #[.agg #[.int .i64 x.id, sv], .int .i64 k] w fun e w' => e = .returned (.int .i64 (k + 3 * (x.l.length : Nat))) ∧ Own 32 3 w' lo hi sv x.l.length (marksV k x.l.length) ∧ Chg lo hi w w' := by
  have up := up_a1 w (.cells #[.int .i64 x.id, sv] 66)
  have hc := markValS_c sv x.l k _ (hown.below up hhi) hk0 hk
  have hup := Lib.hid up
  clear up
  go_enter Try.func51, Try.ntmps51
  go_wp2_with fail
  refine hc.mono ?_
  rintro e w1 ⟨rfl, hown1, hc1⟩
  have H1 := Lib.hid hown1
  have H2 := Lib.hid hc1
  clear hown1 hc1
  go_wp2_with fail
  go_ret
  exact ⟨rfl, H1.out, (Chg.of_below hup.out).trans H2.out⟩
set_option maxHeartbeats 1000000 in
theorem heldRow_c (x : R) (sv : Value) (k : Int) (w : World) {lo hi e : Nat} (hown : Own e 3 w lo hi sv x.l.length (marksV k x.l.length)) (hhi : hi ≤ w.heap.size) (hk0 : 1 ≤ k) (hk : k + 3 * (x.l.length : Nat) ≤ 100000000) :
    Calls Try.prog 52 #[.agg #[.int .i64 x.id, sv], .int .i64 k] w fun e w' => e = .returned (.int .i64 (k + 3 * (x.l.length : Nat))) ∧ Below w.heap.size w w' := by
  have up := up_a1 w (.cells #[.int .i64 x.id, sv] 66)
  have hc := heldValS_c sv x.l k _ (hown.below up hhi) (by simp only [World.size_alloc]; omega) hk0 hk
  have hup := Lib.hid up
  clear up
  go_enter Try.func52, Try.ntmps52
  go_wp2_with fail
  refine hc.mono ?_
  rintro e w1 ⟨rfl, hb1⟩
  have H2 := Lib.hid (below_a1 hb1)
  clear hb1
  go_wp2_with fail
  go_ret
  exact ⟨rfl, H2.out⟩

end Go.Proofs.Ytphbkghokhlnbaa
