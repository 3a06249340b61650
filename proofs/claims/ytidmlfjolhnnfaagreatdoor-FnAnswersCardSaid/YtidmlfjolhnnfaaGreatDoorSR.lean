/- The laws' comparison of two results that are the same: a contract. -/
import Derived.Test.YtidmlfjolhnnfaaGreatDoorXL
import Derived.Test.YtidmlfjolhnnfaaGreatDoorXA
namespace Go.Proofs.YtidmlfjolhnnfaaGreatDoor
open Go.Sort Go.ChangeShapes Go.WideShapes Go.ChangeAt Go.RowKit Go.Lb
set_option maxHeartbeats 2000000 in
theorem law_sameResult (r : Res) (x y : Value) (w : World) {l1 h1 l2 h2 : Nat} (hx : RdR w l1 h1 x r.rows) (hh1 : h1 ≤ w.heap.size) (hy : RdR w l2 h2 y r.rows) (hh2 : h2 ≤ w.heap.size) :
    Calls Tryz.prog 9 #[.agg #[x, .int .i64 r.n, .bool r.has, .int .i64 r.v.ty, .int .i64 r.v.n, .string r.v.s], .agg #[y, .int .i64 r.n, .bool r.has, .int .i64 r.v.ty, .int .i64 r.v.n, .string r.v.s]] w fun e w' => e = .returned (.bool true) ∧ Below w.heap.size w w' := by
  obtain ⟨A, c, rfl, -, -⟩ := hx.form
  obtain ⟨A', c', rfl, -, -⟩ := hy.form
  have up := up_a2 w (.cells #[.slice A r.rows.length c, .int .i64 r.n, .bool r.has, .int .i64 r.v.ty, .int .i64 r.v.n, .string r.v.s] 37) (.cells #[.slice A' r.rows.length c', .int .i64 r.n, .bool r.has, .int .i64 r.v.ty, .int .i64 r.v.n, .string r.v.s] 37)
  have hs : ((w.alloc (.cells #[.slice A r.rows.length c, .int .i64 r.n, .bool r.has, .int .i64 r.v.ty, .int .i64 r.v.n, .string r.v.s] 37)).alloc (.cells #[.slice A' r.rows.length c', .int .i64 r.n, .bool r.has, .int .i64 r.v.ty, .int .i64 r.v.n, .string r.v.s] 37)).heap.size = w.heap.size + 1 + 1 := by simp
  have HC := Lib.hid (law_sameRows r.rows _ _ ((w.alloc (.cells #[.slice A r.rows.length c, .int .i64 r.n, .bool r.has, .int .i64 r.v.ty, .int .i64 r.v.n, .string r.v.s] 37)).alloc (.cells #[.slice A' r.rows.length c', .int .i64 r.n, .bool r.has, .int .i64 r.v.ty, .int .i64 r.v.n, .string r.v.s] 37)) (hx.below up hh1) (by rw [hs]; omega) (hy.below up hh2) (by rw [hs]; omega))
  have HA := Lib.hid ((up_a1 (w.alloc (.cells #[.slice A r.rows.length c, .int .i64 r.n, .bool r.has, .int .i64 r.v.ty, .int .i64 r.v.n, .string r.v.s] 37)) (.cells #[.slice A' r.rows.length c', .int .i64 r.n, .bool r.has, .int .i64 r.v.ty, .int .i64 r.v.n, .string r.v.s] 37)).block w.heap.size (by simp) |>.trans (heap_alloc_new w _))
  have HB := Lib.hid (show ((w.alloc (.cells #[.slice A r.rows.length c, .int .i64 r.n, .bool r.has, .int .i64 r.v.ty, .int .i64 r.v.n, .string r.v.s] 37)).alloc (.cells #[.slice A' r.rows.length c', .int .i64 r.n, .bool r.has, .int .i64 r.v.ty, .int .i64 r.v.n, .string r.v.s] 37)).heap[w.heap.size + 1]? = some _ by have h := heap_alloc_new (w.alloc (.cells #[.slice A r.rows.length c, .int .i64 r.n, .bool r.has, .int .i64 r.v.ty, .int .i64 r.v.n, .string r.v.s] 37)) (.cells #[.slice A' r.rows.length c', .int .i64 r.n, .bool r.has, .int .i64 r.v.ty, .int .i64 r.v.n, .string r.v.s] 37); rw [World.size_alloc] at h; exact h)
  have hE := fun W => eql_V r.v r.v W
  rw [eqd_self] at hE
  have e1 : (r.n == r.n) = true := by simp
  have e2 : (r.has == r.has) = true := by simp
  clear hx hy
  go_enter Tryz.func9, Tryz.ntmps9
  go_wp2_with fail
  refine HC.out.mono ?_
  rintro e w1 ⟨rfl, hb1⟩
  have a1 := (hb1.block _ (by rw [hs]; omega)).trans HA.out
  have b1 := (hb1.block _ (by rw [hs]; omega)).trans HB.out
  have p1 := cell_of_row w1 (w.heap.size) 1 _ _ _ a1
  have p2 := cell_of_row w1 (w.heap.size) 2 _ _ _ a1
  have p3 := cell_of_row w1 (w.heap.size) 3 _ _ _ a1
  have p4 := cell_of_row w1 (w.heap.size) 4 _ _ _ a1
  have p5 := cell_of_row w1 (w.heap.size) 5 _ _ _ a1
  have q1 := cell_of_row w1 (w.heap.size + 1) 1 _ _ _ b1
  have q2 := cell_of_row w1 (w.heap.size + 1) 2 _ _ _ b1
  have q3 := cell_of_row w1 (w.heap.size + 1) 3 _ _ _ b1
  have q4 := cell_of_row w1 (w.heap.size + 1) 4 _ _ _ b1
  have q5 := cell_of_row w1 (w.heap.size + 1) 5 _ _ _ b1
  simp only [List.getElem?_toArray, List.getElem?_cons_zero, List.getElem?_cons_succ] at p1 p2 p3 p4 p5 q1 q2 q3 q4 q5
  have Hb := Lib.hid (below_a2 hb1)
  clear a1 b1 HA HB HC hb1
  go_wp2_with fail
  go_ret
  exact ⟨rfl, Hb.out⟩
end Go.Proofs.YtidmlfjolhnnfaaGreatDoor
