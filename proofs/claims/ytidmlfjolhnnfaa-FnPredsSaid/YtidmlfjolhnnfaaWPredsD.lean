/- The law FnPreds: the walk. Where a predicate may not hold by the zones of some rows, it holds for none of them; a negation holds exactly if its operand does not. No conditions. -/
import Derived.Test.YtidmlfjolhnnfaaWPP
import Derived.Test.YtidmlfjolhnnfaaS31
import Derived.Test.YtidmlfjolhnnfaaS33
import Derived.Test.YtidmlfjolhnnfaaS36
import Derived.Test.YtidmlfjolhnnfaaS28
import Derived.Test.YtidmlfjolhnnfaaXL
namespace Go.Proofs.Ytidmlfjolhnnfaa
open Go.Sort Go.ChangeShapes Go.WideShapes Go.ChangeAt Go.RowKit Go.Lb
set_option maxRecDepth 20000 in
set_option maxHeartbeats 4000000 in
theorem wPreds (code : List UInt8) (x : Value) (w : World) (hx : RdB w 0 w.heap.size x code) :
    Calls Try.prog 4 #[x] w fun e w' => e = .returned (.bool true) ∧ Below w.heap.size w w' := by
  go_enter Try.func4, Try.ntmps4
  go_wp2_with fail
  refine (law_big code _ w hx).mono ?_
  rintro e w1 ⟨rfl, rfl⟩
  by_cases hbg : 1048576 < (code.length : Int)
  · have hd := decide_eq_true hbg
    go_wp2_with fail
    go_ret
    exact ⟨rfl, Below.refl _ _⟩
  have hd := decide_eq_false hbg
  have hcl : code.length ≤ 1048576 := by omega
  have RC := Lib.hid hx
  have HB := Lib.hid (Below.refl w.heap.size w)
  go_wp2_with fail
  clear hbg hd hx
  have hC := spec_DrawSearch code _ w RC.out (Nat.le_refl _) hcl
  have HC := Lib.hid hC
  clear hC
  refine HC.out.mono ?_
  rintro e w1 ⟨cols, p, cv, sv, lv, l, rfl, hrc, hrp, hrl, hpk, hlk, hb⟩
  replace RC := Lib.hid (RC.out.go hb)
  replace HB := Lib.hid (below_go HB.out hb)
  have hr := hrc.top (Nat.le_refl _)
  obtain ⟨A2, c2, rfl, -, -⟩ := hr.form
  have RK := Lib.hid hr
  clear hr
  have hr := hrp.top (Nat.le_refl _)
  obtain ⟨A3, c3, rfl, -, -⟩ := hr.form
  have RP := Lib.hid hr
  clear hr
  have hr := hrl.top (Nat.le_refl _)
  obtain ⟨A4, c4, rfl, -, -⟩ := hr.form
  have RL := Lib.hid hr
  clear hr
  clear hrc hrp hrl
  clear hb HC
  have hup := up_a3 w1 (.cells #[.int .i64 p.kind, .int .i64 p.col, .int .i64 p.op, .int .i64 p.v.ty, .int .i64 p.v.n, .string p.v.s, .slice A3 p.l.length c3] 28) (.cells #[.int .i64 p.kind, .int .i64 p.col, .int .i64 p.op, .int .i64 p.v.ty, .int .i64 p.v.n, .string p.v.s, .slice A3 p.l.length c3] 28) (.cells #[.int .i64 5, .int .i64 0, .int .i64 0, .int .i64 0, .int .i64 0, .string ⟨#[]⟩, .slice (some ⟨w1.heap.size + 1, 0, none⟩) 1 1] 28)
  have T4 : BlkAt (((w1.alloc (.cells #[.int .i64 p.kind, .int .i64 p.col, .int .i64 p.op, .int .i64 p.v.ty, .int .i64 p.v.n, .string p.v.s, .slice A3 p.l.length c3] 28)).alloc (.cells #[.int .i64 p.kind, .int .i64 p.col, .int .i64 p.op, .int .i64 p.v.ty, .int .i64 p.v.n, .string p.v.s, .slice A3 p.l.length c3] 28)).alloc (.cells #[.int .i64 5, .int .i64 0, .int .i64 0, .int .i64 0, .int .i64 0, .string ⟨#[]⟩, .slice (some ⟨w1.heap.size + 1, 0, none⟩) 1 1] 28)) (w1.heap.size) (.cells #[.int .i64 p.kind, .int .i64 p.col, .int .i64 p.op, .int .i64 p.v.ty, .int .i64 p.v.n, .string p.v.s, .slice A3 p.l.length c3] 28) := by
    iterate 2 refine alloc_old ?_
    exact heap_new_at (by simp)
  have TX : BlkAt (((w1.alloc (.cells #[.int .i64 p.kind, .int .i64 p.col, .int .i64 p.op, .int .i64 p.v.ty, .int .i64 p.v.n, .string p.v.s, .slice A3 p.l.length c3] 28)).alloc (.cells #[.int .i64 p.kind, .int .i64 p.col, .int .i64 p.op, .int .i64 p.v.ty, .int .i64 p.v.n, .string p.v.s, .slice A3 p.l.length c3] 28)).alloc (.cells #[.int .i64 5, .int .i64 0, .int .i64 0, .int .i64 0, .int .i64 0, .string ⟨#[]⟩, .slice (some ⟨w1.heap.size + 1, 0, none⟩) 1 1] 28)) (w1.heap.size + 1) (.cells #[.int .i64 p.kind, .int .i64 p.col, .int .i64 p.op, .int .i64 p.v.ty, .int .i64 p.v.n, .string p.v.s, .slice A3 p.l.length c3] 28) := by
    iterate 1 refine alloc_old ?_
    exact heap_new_at (by simp)
  have T6 : BlkAt (((w1.alloc (.cells #[.int .i64 p.kind, .int .i64 p.col, .int .i64 p.op, .int .i64 p.v.ty, .int .i64 p.v.n, .string p.v.s, .slice A3 p.l.length c3] 28)).alloc (.cells #[.int .i64 p.kind, .int .i64 p.col, .int .i64 p.op, .int .i64 p.v.ty, .int .i64 p.v.n, .string p.v.s, .slice A3 p.l.length c3] 28)).alloc (.cells #[.int .i64 5, .int .i64 0, .int .i64 0, .int .i64 0, .int .i64 0, .string ⟨#[]⟩, .slice (some ⟨w1.heap.size + 1, 0, none⟩) 1 1] 28)) (w1.heap.size + 1 + 1) (.cells #[.int .i64 5, .int .i64 0, .int .i64 0, .int .i64 0, .int .i64 0, .string ⟨#[]⟩, .slice (some ⟨w1.heap.size + 1, 0, none⟩) 1 1] 28) := by
    exact heap_new_at (by simp)
  obtain ⟨w2, hW⟩ : ∃ W, (((w1.alloc (.cells #[.int .i64 p.kind, .int .i64 p.col, .int .i64 p.op, .int .i64 p.v.ty, .int .i64 p.v.n, .string p.v.s, .slice A3 p.l.length c3] 28)).alloc (.cells #[.int .i64 p.kind, .int .i64 p.col, .int .i64 p.op, .int .i64 p.v.ty, .int .i64 p.v.n, .string p.v.s, .slice A3 p.l.length c3] 28)).alloc (.cells #[.int .i64 5, .int .i64 0, .int .i64 0, .int .i64 0, .int .i64 0, .string ⟨#[]⟩, .slice (some ⟨w1.heap.size + 1, 0, none⟩) 1 1] 28)) = W := ⟨_, rfl⟩
  rw [hW] at hup T4 TX T6
  replace RC := Lib.hid (RC.out.go hup)
  replace RK := Lib.hid (RK.out.go hup)
  replace RP := Lib.hid (RP.out.go hup)
  replace RL := Lib.hid (RL.out.go hup)
  replace HB := Lib.hid (below_go HB.out hup)
  replace T4 := Lib.hid T4
  replace TX := Lib.hid TX
  replace T6 := Lib.hid T6
  go_wp2_with fail
  try rw [hW]
  clear hW hup
  have RN := Lib.hid (rdP_one TX.out (Nat.zero_le _) (Array.getElem?_eq_some_iff.1 TX.out).1 RP.out)
  clear TX
  have hC := spec_DrawHolds code _ w2 RC.out (Nat.le_refl _) hcl
  have HC := Lib.hid hC
  clear hC
  refine HC.out.mono ?_
  rintro e w3 ⟨p2, sv2, lv2, l2, rfl, hrp, hrv, hpk2, hb⟩
  replace RC := Lib.hid (RC.out.go hb)
  replace RK := Lib.hid (RK.out.go hb)
  replace RP := Lib.hid (RP.out.go hb)
  replace RL := Lib.hid (RL.out.go hb)
  replace T4 := Lib.hid (T4.out.go hb)
  replace T6 := Lib.hid (T6.out.go hb)
  replace RN := Lib.hid (RN.out.go hb)
  replace HB := Lib.hid (below_go HB.out hb)
  have hr := hrp.top (Nat.le_refl _)
  obtain ⟨A6, c6, rfl, -, -⟩ := hr.form
  have RP2 := Lib.hid hr
  clear hr
  have hr := hrv.top (Nat.le_refl _)
  obtain ⟨A7, c7, rfl, -, -⟩ := hr.form
  have RV2 := Lib.hid hr
  clear hr
  clear hrp hrv
  clear hb HC
  have hup := up_a1 w3 (.cells #[.int .i64 p2.kind, .int .i64 p2.col, .int .i64 p2.op, .int .i64 p2.v.ty, .int .i64 p2.v.n, .string p2.v.s, .slice A6 p2.l.length c6] 28)
  have T7 : BlkAt (w3.alloc (.cells #[.int .i64 p2.kind, .int .i64 p2.col, .int .i64 p2.op, .int .i64 p2.v.ty, .int .i64 p2.v.n, .string p2.v.s, .slice A6 p2.l.length c6] 28)) (w3.heap.size) (.cells #[.int .i64 p2.kind, .int .i64 p2.col, .int .i64 p2.op, .int .i64 p2.v.ty, .int .i64 p2.v.n, .string p2.v.s, .slice A6 p2.l.length c6] 28) := by
    exact heap_new_at (by simp)
  obtain ⟨w4, hW⟩ : ∃ W, (w3.alloc (.cells #[.int .i64 p2.kind, .int .i64 p2.col, .int .i64 p2.op, .int .i64 p2.v.ty, .int .i64 p2.v.n, .string p2.v.s, .slice A6 p2.l.length c6] 28)) = W := ⟨_, rfl⟩
  rw [hW] at hup T7
  replace RC := Lib.hid (RC.out.go hup)
  replace RK := Lib.hid (RK.out.go hup)
  replace RP := Lib.hid (RP.out.go hup)
  replace RL := Lib.hid (RL.out.go hup)
  replace T4 := Lib.hid (T4.out.go hup)
  replace T6 := Lib.hid (T6.out.go hup)
  replace RN := Lib.hid (RN.out.go hup)
  replace RP2 := Lib.hid (RP2.out.go hup)
  replace RV2 := Lib.hid (RV2.out.go hup)
  replace HB := Lib.hid (below_go HB.out hup)
  replace T7 := Lib.hid T7
  go_wp2_with fail
  try rw [hW]
  clear hW hup
  have hC := spec_DrawMayHold code _ w4 RC.out (Nat.le_refl _) hcl
  have HC := Lib.hid hC
  clear hC
  refine HC.out.mono ?_
  rintro e w5 ⟨p3, sv3, zv3, z3, rfl, hrp, hrz, hpk3, hb⟩
  replace RC := Lib.hid (RC.out.go hb)
  replace RK := Lib.hid (RK.out.go hb)
  replace RP := Lib.hid (RP.out.go hb)
  replace RL := Lib.hid (RL.out.go hb)
  replace T4 := Lib.hid (T4.out.go hb)
  replace T6 := Lib.hid (T6.out.go hb)
  replace RN := Lib.hid (RN.out.go hb)
  replace RP2 := Lib.hid (RP2.out.go hb)
  replace RV2 := Lib.hid (RV2.out.go hb)
  replace T7 := Lib.hid (T7.out.go hb)
  replace HB := Lib.hid (below_go HB.out hb)
  have hr := hrp.top (Nat.le_refl _)
  obtain ⟨A9, c9, rfl, -, -⟩ := hr.form
  have RP3 := Lib.hid hr
  clear hr
  have hr := hrz.top (Nat.le_refl _)
  obtain ⟨A10, c10, rfl, -, -⟩ := hr.form
  have RZ3 := Lib.hid hr
  clear hr
  clear hrp hrz
  clear hb HC
  have hup := up_a1 w5 (.cells #[.int .i64 p3.kind, .int .i64 p3.col, .int .i64 p3.op, .int .i64 p3.v.ty, .int .i64 p3.v.n, .string p3.v.s, .slice A9 p3.l.length c9] 28)
  have T9 : BlkAt (w5.alloc (.cells #[.int .i64 p3.kind, .int .i64 p3.col, .int .i64 p3.op, .int .i64 p3.v.ty, .int .i64 p3.v.n, .string p3.v.s, .slice A9 p3.l.length c9] 28)) (w5.heap.size) (.cells #[.int .i64 p3.kind, .int .i64 p3.col, .int .i64 p3.op, .int .i64 p3.v.ty, .int .i64 p3.v.n, .string p3.v.s, .slice A9 p3.l.length c9] 28) := by
    exact heap_new_at (by simp)
  obtain ⟨w6, hW⟩ : ∃ W, (w5.alloc (.cells #[.int .i64 p3.kind, .int .i64 p3.col, .int .i64 p3.op, .int .i64 p3.v.ty, .int .i64 p3.v.n, .string p3.v.s, .slice A9 p3.l.length c9] 28)) = W := ⟨_, rfl⟩
  rw [hW] at hup T9
  replace RC := Lib.hid (RC.out.go hup)
  replace RK := Lib.hid (RK.out.go hup)
  replace RP := Lib.hid (RP.out.go hup)
  replace RL := Lib.hid (RL.out.go hup)
  replace T4 := Lib.hid (T4.out.go hup)
  replace T6 := Lib.hid (T6.out.go hup)
  replace RN := Lib.hid (RN.out.go hup)
  replace RP2 := Lib.hid (RP2.out.go hup)
  replace RV2 := Lib.hid (RV2.out.go hup)
  replace T7 := Lib.hid (T7.out.go hup)
  replace RP3 := Lib.hid (RP3.out.go hup)
  replace RZ3 := Lib.hid (RZ3.out.go hup)
  replace HB := Lib.hid (below_go HB.out hup)
  replace T9 := Lib.hid T9
  go_wp2_with fail
  try rw [hW]
  clear hW hup
  have hsm := Lib.hid (lensR_sm hlk.out.2.1)
  have hll := hlk.out.1
  have hC := impl_Zones l _ w6 RL.out (Nat.le_refl _) ⟨by omega, by have := hsm.out; omega⟩
  have HC := Lib.hid hC
  clear hC
  refine HC.out.mono ?_
  rintro e w7 ⟨_, rfl, ho, hb⟩
  replace RC := Lib.hid (RC.out.go hb)
  replace RK := Lib.hid (RK.out.go hb)
  replace RP := Lib.hid (RP.out.go hb)
  replace RL := Lib.hid (RL.out.go hb)
  replace T4 := Lib.hid (T4.out.go hb)
  replace T6 := Lib.hid (T6.out.go hb)
  replace RN := Lib.hid (RN.out.go hb)
  replace RP2 := Lib.hid (RP2.out.go hb)
  replace RV2 := Lib.hid (RV2.out.go hb)
  replace T7 := Lib.hid (T7.out.go hb)
  replace RP3 := Lib.hid (RP3.out.go hb)
  replace RZ3 := Lib.hid (RZ3.out.go hb)
  replace T9 := Lib.hid (T9.out.go hb)
  replace HB := Lib.hid (below_go HB.out hb)
  have hr := RdZ.top ho.rdZ (Nat.le_refl _)
  obtain ⟨A12, c12, rfl, -, -⟩ := hr.form
  have RY := Lib.hid hr
  clear hr
  clear ho
  clear hb HC
  have HC1 := Lib.hid (fun W (h : Below w7.heap.size w7 W) => (by have h2 := impl_PredOk cols _ p _ W (RK.out.below h (Nat.le_refl _)) h.size (RP.out.below h (Nat.le_refl _)) h.size hpk.out.1 (Nat.le_trans hpk.out.2.1 (by decide)); rw [hpk.out.2.2] at h2; exact h2))
  obtain ⟨b2, hb2⟩ : ∃ b, holdsP l2 p2 = b := ⟨_, rfl⟩
  obtain ⟨b3, hb3⟩ : ∃ b, mayP z3 p3 = b := ⟨_, rfl⟩
  have HC2 := Lib.hid (fun W (h : Below w7.heap.size w7 W) => (by have h2 := impl_Holds p2 _ l2 _ W (RP2.out.below h (Nat.le_refl _)) h.size (RV2.out.below h (Nat.le_refl _)) h.size; rw [hb2] at h2; exact h2))
  have HC3 := Lib.hid (fun W (h : Below w7.heap.size w7 W) => (by have h2 := spec_Holds p2 _ l2 _ W (RP2.out.below h (Nat.le_refl _)) h.size (RV2.out.below h (Nat.le_refl _)) h.size; rw [hb2] at h2; exact h2))
  have HC4 := Lib.hid (fun W (h : Below w7.heap.size w7 W) => (by have h2 := impl_MayHold p3 _ z3 _ W (RP3.out.below h (Nat.le_refl _)) h.size (RZ3.out.below h (Nat.le_refl _)) h.size; rw [hb3] at h2; exact h2))
  have HC5 := Lib.hid (fun W (h : Below w7.heap.size w7 W) => (by have h2 := spec_MayHold p3 _ z3 _ W (RP3.out.below h (Nat.le_refl _)) h.size (RZ3.out.below h (Nat.le_refl _)) h.size; rw [hb3] at h2; exact h2))
  have HC6 := Lib.hid (fun W (h : Below w7.heap.size w7 W) => spec_Zones l _ W (RL.out.below h (Nat.le_refl _)) h.size ⟨by omega, by have := hsm.out; omega⟩)
  have hbb2 : (b2 != b2) = false := by simp
  have hbb3 : (b3 != b3) = false := by simp
  clear hb2 hb3
  have HK : Hid (∀ W, Below w7.heap.size w7 W → (W.cell? ⟨w1.heap.size, 0, none⟩ = some (.int .i64 p.kind) ∧ W.cell? ⟨w1.heap.size, 1, none⟩ = some (.int .i64 p.col) ∧ W.cell? ⟨w1.heap.size, 2, none⟩ = some (.int .i64 p.op) ∧ W.cell? ⟨w1.heap.size, 3, none⟩ = some (.int .i64 p.v.ty) ∧ W.cell? ⟨w1.heap.size, 4, none⟩ = some (.int .i64 p.v.n) ∧ W.cell? ⟨w1.heap.size, 5, none⟩ = some (.string p.v.s) ∧ W.cell? ⟨w1.heap.size, 6, none⟩ = some (.slice A3 p.l.length c3)) ∧ (W.cell? ⟨w3.heap.size, 0, none⟩ = some (.int .i64 p2.kind) ∧ W.cell? ⟨w3.heap.size, 1, none⟩ = some (.int .i64 p2.col) ∧ W.cell? ⟨w3.heap.size, 2, none⟩ = some (.int .i64 p2.op) ∧ W.cell? ⟨w3.heap.size, 3, none⟩ = some (.int .i64 p2.v.ty) ∧ W.cell? ⟨w3.heap.size, 4, none⟩ = some (.int .i64 p2.v.n) ∧ W.cell? ⟨w3.heap.size, 5, none⟩ = some (.string p2.v.s) ∧ W.cell? ⟨w3.heap.size, 6, none⟩ = some (.slice A6 p2.l.length c6)) ∧ (W.cell? ⟨w5.heap.size, 0, none⟩ = some (.int .i64 p3.kind) ∧ W.cell? ⟨w5.heap.size, 1, none⟩ = some (.int .i64 p3.col) ∧ W.cell? ⟨w5.heap.size, 2, none⟩ = some (.int .i64 p3.op) ∧ W.cell? ⟨w5.heap.size, 3, none⟩ = some (.int .i64 p3.v.ty) ∧ W.cell? ⟨w5.heap.size, 4, none⟩ = some (.int .i64 p3.v.n) ∧ W.cell? ⟨w5.heap.size, 5, none⟩ = some (.string p3.v.s) ∧ W.cell? ⟨w5.heap.size, 6, none⟩ = some (.slice A9 p3.l.length c9))) := Lib.hid fun W h => by
    have u4 := T4.out.go h
    have u7 := T7.out.go h
    have u9 := T9.out.go h
    exact ⟨⟨cell_of_row W _ 0 _ _ _ u4, cell_of_row W _ 1 _ _ _ u4, cell_of_row W _ 2 _ _ _ u4, cell_of_row W _ 3 _ _ _ u4, cell_of_row W _ 4 _ _ _ u4, cell_of_row W _ 5 _ _ _ u4, cell_of_row W _ 6 _ _ _ u4⟩,
      ⟨cell_of_row W _ 0 _ _ _ u7, cell_of_row W _ 1 _ _ _ u7, cell_of_row W _ 2 _ _ _ u7, cell_of_row W _ 3 _ _ _ u7, cell_of_row W _ 4 _ _ _ u7, cell_of_row W _ 5 _ _ _ u7, cell_of_row W _ 6 _ _ _ u7⟩,
      ⟨cell_of_row W _ 0 _ _ _ u9, cell_of_row W _ 1 _ _ _ u9, cell_of_row W _ 2 _ _ _ u9, cell_of_row W _ 3 _ _ _ u9, cell_of_row W _ 4 _ _ _ u9, cell_of_row W _ 5 _ _ _ u9, cell_of_row W _ 6 _ _ _ u9⟩⟩
  have HBq := Lib.hid ((Below.refl w7.heap.size w7).drew)
  have FS := Lib.hid (HK.out _ HBq.out)
  go_wp2_with fail

  go_region_held3 (fun w' => (w'.cell? ⟨w1.heap.size, 0, none⟩ = some (.int .i64 p.kind) ∧ w'.cell? ⟨w1.heap.size, 1, none⟩ = some (.int .i64 p.col) ∧ w'.cell? ⟨w1.heap.size, 2, none⟩ = some (.int .i64 p.op) ∧ w'.cell? ⟨w1.heap.size, 3, none⟩ = some (.int .i64 p.v.ty) ∧ w'.cell? ⟨w1.heap.size, 4, none⟩ = some (.int .i64 p.v.n) ∧ w'.cell? ⟨w1.heap.size, 5, none⟩ = some (.string p.v.s) ∧ w'.cell? ⟨w1.heap.size, 6, none⟩ = some (.slice A3 p.l.length c3)) ∧ (w'.cell? ⟨w3.heap.size, 0, none⟩ = some (.int .i64 p2.kind) ∧ w'.cell? ⟨w3.heap.size, 1, none⟩ = some (.int .i64 p2.col) ∧ w'.cell? ⟨w3.heap.size, 2, none⟩ = some (.int .i64 p2.op) ∧ w'.cell? ⟨w3.heap.size, 3, none⟩ = some (.int .i64 p2.v.ty) ∧ w'.cell? ⟨w3.heap.size, 4, none⟩ = some (.int .i64 p2.v.n) ∧ w'.cell? ⟨w3.heap.size, 5, none⟩ = some (.string p2.v.s) ∧ w'.cell? ⟨w3.heap.size, 6, none⟩ = some (.slice A6 p2.l.length c6)) ∧ (w'.cell? ⟨w5.heap.size, 0, none⟩ = some (.int .i64 p3.kind) ∧ w'.cell? ⟨w5.heap.size, 1, none⟩ = some (.int .i64 p3.col) ∧ w'.cell? ⟨w5.heap.size, 2, none⟩ = some (.int .i64 p3.op) ∧ w'.cell? ⟨w5.heap.size, 3, none⟩ = some (.int .i64 p3.v.ty) ∧ w'.cell? ⟨w5.heap.size, 4, none⟩ = some (.int .i64 p3.v.n) ∧ w'.cell? ⟨w5.heap.size, 5, none⟩ = some (.string p3.v.s) ∧ w'.cell? ⟨w5.heap.size, 6, none⟩ = some (.slice A9 p3.l.length c9))) (first | with_reducible exact FS.out | go_keep) (first | (go_at_call 20; ((with_reducible refine (HC1.out _ HBq.out).mono ?_); rintro e w6 ⟨rfl, hb6⟩; replace HBq := Lib.hid (HBq.out.trans (hb6.mono HBq.out.size)); have FS := Lib.hid (HK.out _ HBq.out); clear hb6)) | (go_at_call 13; ((with_reducible refine (HC2.out _ HBq.out).mono ?_); rintro e w6 ⟨rfl, hb6⟩; replace HBq := Lib.hid (HBq.out.trans (hb6.mono HBq.out.size)); have FS := Lib.hid (HK.out _ HBq.out); clear hb6)) | (go_at_call 21; ((with_reducible refine (HC3.out _ HBq.out).mono ?_); rintro e w6 ⟨rfl, hb6⟩; replace HBq := Lib.hid (HBq.out.trans (hb6.mono HBq.out.size)); have FS := Lib.hid (HK.out _ HBq.out); clear hb6)) | (go_at_call 22; ((with_reducible refine (HC4.out _ HBq.out).mono ?_); rintro e w6 ⟨rfl, hb6⟩; replace HBq := Lib.hid (HBq.out.trans (hb6.mono HBq.out.size)); have FS := Lib.hid (HK.out _ HBq.out); clear hb6)) | (go_at_call 23; ((with_reducible refine (HC5.out _ HBq.out).mono ?_); rintro e w6 ⟨rfl, hb6⟩; replace HBq := Lib.hid (HBq.out.trans (hb6.mono HBq.out.size)); have FS := Lib.hid (HK.out _ HBq.out); clear hb6)) | (go_at_call 24; ((with_reducible refine (HC6.out _ HBq.out).mono ?_); rintro e w6 ⟨_, rfl, ho, hb6⟩; (obtain ⟨Aq, cq, rfl, -, -, -⟩ := ho.cells); clear ho; replace HBq := Lib.hid (HBq.out.trans (hb6.mono HBq.out.size)); have FS := Lib.hid (HK.out _ HBq.out); clear hb6)))
  have hb := HBq.out
  clear FS HBq HC1 HC2 HC3 HC4 HC5 HC6 HK
  replace RC := Lib.hid (RC.out.go hb)
  replace RK := Lib.hid (RK.out.go hb)
  replace RP := Lib.hid (RP.out.go hb)
  replace RL := Lib.hid (RL.out.go hb)
  replace T4 := Lib.hid (T4.out.go hb)
  replace T6 := Lib.hid (T6.out.go hb)
  replace RN := Lib.hid (RN.out.go hb)
  replace RP2 := Lib.hid (RP2.out.go hb)
  replace RV2 := Lib.hid (RV2.out.go hb)
  replace T7 := Lib.hid (T7.out.go hb)
  replace RP3 := Lib.hid (RP3.out.go hb)
  replace RZ3 := Lib.hid (RZ3.out.go hb)
  replace T9 := Lib.hid (T9.out.go hb)
  replace RY := Lib.hid (RY.out.go hb)
  replace HB := Lib.hid (below_go HB.out hb)
  clear hb
  go_wp2_with fail
  go_loopw [12] (fun i wr => ∃ j : Nat, Hid (i = .int .i64 j ∧ j ≤ l.length ∧ Below w6.heap.size w6 wr)) (fun i _ => l.length - (intOf i).toNat)
  case atStart => exact ⟨0, Lib.hid ⟨rfl, Nat.zero_le _, Below.refl _ _⟩⟩
  case round =>
    obtain ⟨j, hrel⟩ := hrel
    obtain ⟨rfl, hj, hbr⟩ := hrel.out
    clear hrel
    by_cases hjl : j < l.length
    · obtain ⟨b, off, r, sv, rfl, -, hbl, hrk, e0, e1, hrv⟩ := (RL.out.below hbr (Nat.le_refl _)).at hjl
      obtain ⟨Av, cv, rfl, -, -⟩ := hrv.form
      have hS := sound hlk.out.2.2.1 (mem_of_get hrk) 4 p (predOk_deep hpk.out.2.2).2.1
      have hhr : w6.heap.size ≤ wr.heap.size := hbr.size
      obtain ⟨is, his⟩ : ∃ is, holdsP r.l p = is := ⟨_, rfl⟩
      rw [his] at hS
      have Hrv := Lib.hid hrv
      have hS := Lib.hid hS
      have HH := Lib.hid (fun W (h : Below wr.heap.size wr W) => (by have h2 := impl_Holds p _ r.l _ W (RP.out.below (hbr.trans (h.mono hbr.size)) (Nat.le_refl _)) (Nat.le_trans hbr.size h.size) (Hrv.out.below h hhr) (Nat.le_trans hhr h.size); rw [his] at h2; exact h2))
      have hu4 := T4.out.go hbr
      have c0 := cell_of_row wr (w1.heap.size) 0 _ _ _ hu4
      have c1 := cell_of_row wr (w1.heap.size) 1 _ _ _ hu4
      have c2 := cell_of_row wr (w1.heap.size) 2 _ _ _ hu4
      have c3 := cell_of_row wr (w1.heap.size) 3 _ _ _ hu4
      have c4 := cell_of_row wr (w1.heap.size) 4 _ _ _ hu4
      have c5 := cell_of_row wr (w1.heap.size) 5 _ _ _ hu4
      have c6 := cell_of_row wr (w1.heap.size) 6 _ _ _ hu4
      simp only [List.getElem?_toArray, List.getElem?_cons_zero, List.getElem?_cons_succ] at c0 c1 c2 c3 c4 c5 c6
      have His := Lib.hid his
      clear hrv hrk hu4 e0 his
      go_wp2_with fail
      have q_0 := cell_regrown (w := wr) c0
      have q_1 := cell_regrown (w := wr) c1
      have q_2 := cell_regrown (w := wr) c2
      have q_3 := cell_regrown (w := wr) c3
      have q_4 := cell_regrown (w := wr) c4
      have q_5 := cell_regrown (w := wr) c5
      have q_6 := cell_regrown (w := wr) c6
      have q_7 := cell_regrown (w := wr) e1
      refine wp_region_quiet_below (by kernel_rfl) (by kernel_rfl) ?_
      repeat (go_big_quiet_step (first | (go_at_call 13; exact Calls.regrown_of (HH.out _ (below_regrown _ _ _)))))
      refine wpQuiet_nil ?_
      intro wq hw'
      obtain ⟨⟨dq, osq⟩, hw''⟩ := hw'
      have hbq := below_regrown wr dq osq
      rw [← hw''] at hbq
      clear hw''
      clear q_0 q_1 q_2 q_3 q_4 q_5 q_6 q_7
      rename World => v1
      have hbv := hbr.trans (hbq.mono hbr.size)
      have hu4 := T4.out.go hbv
      have hu6 := T6.out.go hbv
      have f1 := cell_keep e1 hbq
      have d0 := cell_of_row v1 (w1.heap.size) 0 _ _ _ hu4
      have d1 := cell_of_row v1 (w1.heap.size) 1 _ _ _ hu4
      have d2 := cell_of_row v1 (w1.heap.size) 2 _ _ _ hu4
      have d3 := cell_of_row v1 (w1.heap.size) 3 _ _ _ hu4
      have d4 := cell_of_row v1 (w1.heap.size) 4 _ _ _ hu4
      have d5 := cell_of_row v1 (w1.heap.size) 5 _ _ _ hu4
      have d6 := cell_of_row v1 (w1.heap.size) 6 _ _ _ hu4
      have n0 := cell_of_row v1 (w1.heap.size + 1 + 1) 0 _ _ _ hu6
      have n1 := cell_of_row v1 (w1.heap.size + 1 + 1) 1 _ _ _ hu6
      have n2 := cell_of_row v1 (w1.heap.size + 1 + 1) 2 _ _ _ hu6
      have n3 := cell_of_row v1 (w1.heap.size + 1 + 1) 3 _ _ _ hu6
      have n4 := cell_of_row v1 (w1.heap.size + 1 + 1) 4 _ _ _ hu6
      have n5 := cell_of_row v1 (w1.heap.size + 1 + 1) 5 _ _ _ hu6
      have n6 := cell_of_row v1 (w1.heap.size + 1 + 1) 6 _ _ _ hu6
      simp only [List.getElem?_toArray, List.getElem?_cons_zero, List.getElem?_cons_succ] at d0 d1 d2 d3 d4 d5 d6 n0 n1 n2 n3 n4 n5 n6
      have his := His.out
      have hS := hS.out
      clear c0 c1 c2 c3 c4 c5 c6 e1 hu4 hu6 HH hbr
      cases is
      · have Hi0 := Lib.hid his
        have HM := Lib.hid (fun W (h : Below v1.heap.size v1 W) => (show Calls Try.prog 22 #[.agg #[.int .i64 5, .int .i64 0, .int .i64 0, .int .i64 0, .int .i64 0, .string ⟨#[]⟩, .slice (some ⟨w1.heap.size + 1, 0, none⟩) 1 1], _] W _ from (by have h2 := impl_MayHold (notP p) _ (zonesOf l) _ W (RN.out.below (hbv.trans (h.mono hbv.size)) (Nat.le_refl _)) (Nat.le_trans hbv.size h.size) (RY.out.below (hbv.trans (h.mono hbv.size)) (Nat.le_refl _)) (Nat.le_trans hbv.size h.size); rw [may_not, hS.2 rfl] at h2; exact h2)))
        have HNo := Lib.hid (fun W (h : Below v1.heap.size v1 W) => (show Calls Try.prog 13 #[.agg #[.int .i64 5, .int .i64 0, .int .i64 0, .int .i64 0, .int .i64 0, .string ⟨#[]⟩, .slice (some ⟨w1.heap.size + 1, 0, none⟩) 1 1], _] W (fun e w' => e = .returned (.bool true) ∧ Below W.heap.size W w') from (by have h2 := impl_Holds (notP p) _ r.l _ W (RN.out.below (hbv.trans (h.mono hbv.size)) (Nat.le_refl _)) (Nat.le_trans hbv.size h.size) (Hrv.out.below (hbq.trans (h.mono hbq.size)) hhr) (Nat.le_trans hhr (Nat.le_trans hbq.size h.size)); rw [holds_not, his] at h2; exact h2)))
        clear his hS hbq
        go_wp2_with fail
        have q_0 := cell_regrown (w := v1) d0
        have q_1 := cell_regrown (w := v1) d1
        have q_2 := cell_regrown (w := v1) d2
        have q_3 := cell_regrown (w := v1) d3
        have q_4 := cell_regrown (w := v1) d4
        have q_5 := cell_regrown (w := v1) d5
        have q_6 := cell_regrown (w := v1) d6
        have q_7 := cell_regrown (w := v1) n0
        have q_8 := cell_regrown (w := v1) n1
        have q_9 := cell_regrown (w := v1) n2
        have q_10 := cell_regrown (w := v1) n3
        have q_11 := cell_regrown (w := v1) n4
        have q_12 := cell_regrown (w := v1) n5
        have q_13 := cell_regrown (w := v1) n6
        have q_14 := cell_regrown (w := v1) f1
        refine wp_region_quiet_below (by kernel_rfl) (by kernel_rfl) ?_
        repeat (go_big_quiet_step (first | (go_at_call 13; exact Calls.regrown_of (HNo.out _ (below_regrown _ _ _))) | (go_at_call 22; exact Calls.regrown_of (HM.out _ (below_regrown _ _ _)))))
        refine wpQuiet_nil ?_
        intro wq hw'
        obtain ⟨⟨dq, osq⟩, hw''⟩ := hw'
        have hbq := below_regrown v1 dq osq
        rw [← hw''] at hbq
        clear hw''
        clear q_0 q_1 q_2 q_3 q_4 q_5 q_6 q_7 q_8 q_9 q_10 q_11 q_12 q_13 q_14
        rename World => v2
        have Hb2 := Lib.hid (hbv.trans (hbq.mono hbv.size))
        clear hbq hbv d0 d1 d2 d3 d4 d5 d6 n0 n1 n2 n3 n4 n5 n6 f1
        go_wp2_with fail
        go_roundw
        case rel => exact ⟨j + 1, Lib.hid ⟨by go_num, by omega, Hb2.out⟩⟩
        case measure => simp [intOf]; omega
      · have Hi0 := Lib.hid his
        have HM := Lib.hid (fun W (h : Below v1.heap.size v1 W) => (by have h2 := impl_MayHold p _ (zonesOf l) _ W (RP.out.below (hbv.trans (h.mono hbv.size)) (Nat.le_refl _)) (Nat.le_trans hbv.size h.size) (RY.out.below (hbv.trans (h.mono hbv.size)) (Nat.le_refl _)) (Nat.le_trans hbv.size h.size); rw [hS.1 rfl] at h2; exact h2))
        have HNo := Lib.hid (fun W (h : Below v1.heap.size v1 W) => (show Calls Try.prog 13 #[.agg #[.int .i64 5, .int .i64 0, .int .i64 0, .int .i64 0, .int .i64 0, .string ⟨#[]⟩, .slice (some ⟨w1.heap.size + 1, 0, none⟩) 1 1], _] W (fun e w' => e = .returned (.bool false) ∧ Below W.heap.size W w') from (by have h2 := impl_Holds (notP p) _ r.l _ W (RN.out.below (hbv.trans (h.mono hbv.size)) (Nat.le_refl _)) (Nat.le_trans hbv.size h.size) (Hrv.out.below (hbq.trans (h.mono hbq.size)) hhr) (Nat.le_trans hhr (Nat.le_trans hbq.size h.size)); rw [holds_not, his] at h2; exact h2)))
        clear his hS hbq
        go_wp2_with fail
        have q_0 := cell_regrown (w := v1) d0
        have q_1 := cell_regrown (w := v1) d1
        have q_2 := cell_regrown (w := v1) d2
        have q_3 := cell_regrown (w := v1) d3
        have q_4 := cell_regrown (w := v1) d4
        have q_5 := cell_regrown (w := v1) d5
        have q_6 := cell_regrown (w := v1) d6
        have q_7 := cell_regrown (w := v1) n0
        have q_8 := cell_regrown (w := v1) n1
        have q_9 := cell_regrown (w := v1) n2
        have q_10 := cell_regrown (w := v1) n3
        have q_11 := cell_regrown (w := v1) n4
        have q_12 := cell_regrown (w := v1) n5
        have q_13 := cell_regrown (w := v1) n6
        have q_14 := cell_regrown (w := v1) f1
        refine wp_region_quiet_below (by kernel_rfl) (by kernel_rfl) ?_
        repeat (go_big_quiet_step (first | (go_at_call 13; exact Calls.regrown_of (HNo.out _ (below_regrown _ _ _))) | (go_at_call 22; exact Calls.regrown_of (HM.out _ (below_regrown _ _ _)))))
        refine wpQuiet_nil ?_
        intro wq hw'
        obtain ⟨⟨dq, osq⟩, hw''⟩ := hw'
        have hbq := below_regrown v1 dq osq
        rw [← hw''] at hbq
        clear hw''
        clear q_0 q_1 q_2 q_3 q_4 q_5 q_6 q_7 q_8 q_9 q_10 q_11 q_12 q_13 q_14
        rename World => v2
        have Hb2 := Lib.hid (hbv.trans (hbq.mono hbv.size))
        clear hbq hbv d0 d1 d2 d3 d4 d5 d6 n0 n1 n2 n3 n4 n5 n6 f1
        go_wp2_with fail
        go_roundw
        case rel => exact ⟨j + 1, Lib.hid ⟨by go_num, by omega, Hb2.out⟩⟩
        case measure => simp [intOf]; omega
    · obtain rfl : j = l.length := by omega
      go_wp2_with fail
      go_ret
      exact ⟨rfl, below_go HB.out hbr⟩
end Go.Proofs.Ytidmlfjolhnnfaa
