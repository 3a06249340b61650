/- The law FnMeants: the walk. Just the rows that a query looks for count: of these alone the same comes. No conditions. -/
import Derived.Test.YtidmlfjolhnnfaaWPP
import Derived.Test.YtidmlfjolhnnfaaD35
import Derived.Test.YtidmlfjolhnnfaaXK
import Derived.Test.YtidmlfjolhnnfaaS43
import Derived.Test.YtidmlfjolhnnfaaJA
import Derived.Test.YtidmlfjolhnnfaaSR
import Derived.Test.YtidmlfjolhnnfaaXL
namespace Go.Proofs.Ytidmlfjolhnnfaa
open Go.Sort Go.ChangeShapes Go.WideShapes Go.ChangeAt Go.RowKit Go.Lb
theorem holds_of {r : List V} {p : P} {f : FuncId} {a : Array Value} {w : World} (h : holdsP r p = true) (c : Calls Try.prog f a w fun e w' => e = .returned (.bool (holdsP r p)) ∧ Below w.heap.size w w') : Calls Try.prog f a w fun e w' => e = .returned (.bool true) ∧ Below w.heap.size w w' := by
  rw [h] at c
  exact c
theorem answer_of {x r : Res} {f : FuncId} {a : Array Value} {w : World} (h : x = r) (c : Calls Try.prog f a w fun e w' => ∃ v, e = .returned (.agg #[v, .int .i64 x.n, .bool x.has, .int .i64 x.v.ty, .int .i64 x.v.n, .string x.v.s]) ∧ OwnR 43 25 w' w.heap.size w'.heap.size v x.rows ∧ Below w.heap.size w w') :
    Calls Try.prog f a w fun e w' => ∃ v, e = .returned (.agg #[v, .int .i64 r.n, .bool r.has, .int .i64 r.v.ty, .int .i64 r.v.n, .string r.v.s]) ∧ OwnR 43 25 w' w.heap.size w'.heap.size v r.rows ∧ Below w.heap.size w w' := h ▸ c
theorem answer_of2 {x r : Res} {n : Int} {f : FuncId} {a : Array Value} {w : World} (h : x = r) (hn : r.n = n) (c : Calls Try.prog f a w fun e w' => ∃ v, e = .returned (.agg #[v, .int .i64 x.n, .bool x.has, .int .i64 x.v.ty, .int .i64 x.v.n, .string x.v.s]) ∧ OwnR 43 25 w' w.heap.size w'.heap.size v x.rows ∧ Below w.heap.size w w') :
    Calls Try.prog f a w fun e w' => ∃ v, e = .returned (.agg #[v, .int .i64 n, .bool r.has, .int .i64 r.v.ty, .int .i64 r.v.n, .string r.v.s]) ∧ OwnR 43 25 w' w.heap.size w'.heap.size v r.rows ∧ Below w.heap.size w w' := by
  subst h hn
  exact c
theorem meant_of {x r : List R} {f : FuncId} {a : Array Value} {w : World} (h : x = r) (c : Calls Try.prog f a w fun e w' => ∃ v, e = .returned v ∧ OwnR 43 25 w' w.heap.size w'.heap.size v x ∧ Below w.heap.size w w') : Calls Try.prog f a w fun e w' => ∃ v, e = .returned v ∧ OwnR 43 25 w' w.heap.size w'.heap.size v r ∧ Below w.heap.size w w' := h ▸ c
set_option maxRecDepth 20000 in
set_option maxHeartbeats 16000000 in
theorem wMeants (code : List UInt8) (x : Value) (w : World) (hx : RdB w 0 w.heap.size x code) :
    Calls Try.prog 3 #[x] w fun e w' => e = .returned (.bool true) ∧ Below w.heap.size w w' := by
  go_enter Try.func3, Try.ntmps3
  go_wp2_with fail
  refine (law_big code _ w hx).mono ?_
  rintro e w1 ⟨rfl, rfl⟩
  by_cases hbg : 1048576 < (code.length : Int)
  · have hd := decide_eq_true hbg
    go_wp2_with fail
    go_ret
    exact ⟨rfl, Below.refl _ _⟩
  have hd := decide_eq_false hbg
  have hcl : code.length ≤ 1048576 := by omega
  have RC := Lib.hid hx
  have HB := Lib.hid (Below.refl w.heap.size w)
  go_wp2_with fail
  clear hbg hd hx
  have hC := spec_DrawMeant code _ w RC.out (Nat.le_refl _) hcl
  have HC := Lib.hid hC
  clear hC
  refine HC.out.mono ?_
  rintro e w1 ⟨q, sv, ov, lv, l, rfl, hrp, hri, hrl, hqk, hlk, hb⟩
  replace RC := Lib.hid (RC.out.go hb)
  replace HB := Lib.hid (below_go HB.out hb)
  have hr := RdP.top hrp (Nat.le_refl _)
  obtain ⟨A2, c2, rfl, -, -⟩ := hr.form
  have RP := Lib.hid hr
  clear hr
  have hr := RdI.top hri (Nat.le_refl _)
  obtain ⟨A3, c3, rfl, -, -⟩ := hr.form
  have RI := Lib.hid hr
  clear hr
  have hr := RdR.top hrl (Nat.le_refl _)
  obtain ⟨A4, c4, rfl, -, -⟩ := hr.form
  have RL := Lib.hid hr
  clear hr
  clear hrp hri hrl
  clear hb HC
  have hup := up_a1 w1 (.cells #[.int .i64 q.kind, .int .i64 q.p.kind, .int .i64 q.p.col, .int .i64 q.p.op, .int .i64 q.p.v.ty, .int .i64 q.p.v.n, .string q.p.v.s, .slice A2 q.p.l.length c2, .int .i64 q.col, .slice A3 q.out.length c3] 31)
  have T3 : BlkAt (w1.alloc (.cells #[.int .i64 q.kind, .int .i64 q.p.kind, .int .i64 q.p.col, .int .i64 q.p.op, .int .i64 q.p.v.ty, .int .i64 q.p.v.n, .string q.p.v.s, .slice A2 q.p.l.length c2, .int .i64 q.col, .slice A3 q.out.length c3] 31)) (w1.heap.size) (.cells #[.int .i64 q.kind, .int .i64 q.p.kind, .int .i64 q.p.col, .int .i64 q.p.op, .int .i64 q.p.v.ty, .int .i64 q.p.v.n, .string q.p.v.s, .slice A2 q.p.l.length c2, .int .i64 q.col, .slice A3 q.out.length c3] 31) := by
    exact heap_new_at (by simp)
  obtain ⟨w2, hW⟩ : ∃ W, (w1.alloc (.cells #[.int .i64 q.kind, .int .i64 q.p.kind, .int .i64 q.p.col, .int .i64 q.p.op, .int .i64 q.p.v.ty, .int .i64 q.p.v.n, .string q.p.v.s, .slice A2 q.p.l.length c2, .int .i64 q.col, .slice A3 q.out.length c3] 31)) = W := ⟨_, rfl⟩
  rw [hW] at hup T3
  replace RC := Lib.hid (RC.out.go hup)
  replace RP := Lib.hid (RP.out.go hup)
  replace RI := Lib.hid (RI.out.go hup)
  replace RL := Lib.hid (RL.out.go hup)
  replace HB := Lib.hid (below_go HB.out hup)
  replace T3 := Lib.hid T3
  have HW := Lib.hid hW
  clear hW hup
  go_wp2_with fail
  try rw [HW.out]
  clear HW
  have hn1 := Lib.hid (lensR_sm hlk.out.2)
  have hll := hlk.out.1
  have hC := impl_Meant q _ _ l _ w2 RP.out (Nat.le_refl _) RI.out (Nat.le_refl _) RL.out (Nat.le_refl _) ⟨by omega, by have := hn1.out; omega⟩
  have HC := Lib.hid hC
  clear hC
  refine HC.out.mono ?_
  rintro e w3 ⟨_, rfl, ho, hb⟩
  replace RC := Lib.hid (RC.out.go hb)
  replace RP := Lib.hid (RP.out.go hb)
  replace RI := Lib.hid (RI.out.go hb)
  replace RL := Lib.hid (RL.out.go hb)
  replace T3 := Lib.hid (T3.out.go hb)
  replace HB := Lib.hid (below_go HB.out hb)
  have hr := ho.topR
  obtain ⟨A6, c6, rfl, -, -⟩ := hr.form
  have RM := Lib.hid hr
  clear hr
  clear ho
  clear hb HC
  have hC := spec_DrawQueryOk code _ w3 RC.out (Nat.le_refl _) hcl
  have HC := Lib.hid hC
  clear hC
  go_wp2_with fail
  refine HC.out.mono ?_
  rintro e w4 ⟨c, q2, cv2, sv2, ov2, rfl, hrc, hrp, hri, hqk2, hc3, hb⟩
  replace RC := Lib.hid (RC.out.go hb)
  replace RP := Lib.hid (RP.out.go hb)
  replace RI := Lib.hid (RI.out.go hb)
  replace RL := Lib.hid (RL.out.go hb)
  replace T3 := Lib.hid (T3.out.go hb)
  replace RM := Lib.hid (RM.out.go hb)
  replace HB := Lib.hid (below_go HB.out hb)
  have hr := RdI.top hrc (Nat.le_refl _)
  obtain ⟨A8, c8, rfl, -, -⟩ := hr.form
  have RK := Lib.hid hr
  clear hr
  have hr := RdP.top hrp (Nat.le_refl _)
  obtain ⟨A9, c9, rfl, -, -⟩ := hr.form
  have RP2 := Lib.hid hr
  clear hr
  have hr := RdI.top hri (Nat.le_refl _)
  obtain ⟨A10, c10, rfl, -, -⟩ := hr.form
  have RI2 := Lib.hid hr
  clear hr
  clear hrc hrp hri
  clear hb HC
  have hup := up_a1 w4 (.cells #[.int .i64 q2.kind, .int .i64 q2.p.kind, .int .i64 q2.p.col, .int .i64 q2.p.op, .int .i64 q2.p.v.ty, .int .i64 q2.p.v.n, .string q2.p.v.s, .slice A9 q2.p.l.length c9, .int .i64 q2.col, .slice A10 q2.out.length c10] 31)
  have T7 : BlkAt (w4.alloc (.cells #[.int .i64 q2.kind, .int .i64 q2.p.kind, .int .i64 q2.p.col, .int .i64 q2.p.op, .int .i64 q2.p.v.ty, .int .i64 q2.p.v.n, .string q2.p.v.s, .slice A9 q2.p.l.length c9, .int .i64 q2.col, .slice A10 q2.out.length c10] 31)) (w4.heap.size) (.cells #[.int .i64 q2.kind, .int .i64 q2.p.kind, .int .i64 q2.p.col, .int .i64 q2.p.op, .int .i64 q2.p.v.ty, .int .i64 q2.p.v.n, .string q2.p.v.s, .slice A9 q2.p.l.length c9, .int .i64 q2.col, .slice A10 q2.out.length c10] 31) := by
    exact heap_new_at (by simp)
  obtain ⟨w5, hW⟩ : ∃ W, (w4.alloc (.cells #[.int .i64 q2.kind, .int .i64 q2.p.kind, .int .i64 q2.p.col, .int .i64 q2.p.op, .int .i64 q2.p.v.ty, .int .i64 q2.p.v.n, .string q2.p.v.s, .slice A9 q2.p.l.length c9, .int .i64 q2.col, .slice A10 q2.out.length c10] 31)) = W := ⟨_, rfl⟩
  rw [hW] at hup T7
  replace RC := Lib.hid (RC.out.go hup)
  replace RP := Lib.hid (RP.out.go hup)
  replace RI := Lib.hid (RI.out.go hup)
  replace RL := Lib.hid (RL.out.go hup)
  replace T3 := Lib.hid (T3.out.go hup)
  replace RM := Lib.hid (RM.out.go hup)
  replace RK := Lib.hid (RK.out.go hup)
  replace RP2 := Lib.hid (RP2.out.go hup)
  replace RI2 := Lib.hid (RI2.out.go hup)
  replace HB := Lib.hid (below_go HB.out hup)
  replace T7 := Lib.hid T7
  have HW := Lib.hid hW
  clear hW hup
  go_wp2_with fail
  try rw [HW.out]
  clear HW
  have hml := meant_len q l
  have hmn := meant_lens q l
  have HM1 := Lib.hid (fun W (h : Below w5.heap.size w5 W) => spec_Meant q _ _ l _ W (RP.out.below h (Nat.le_refl _)) h.size (RI.out.below h (Nat.le_refl _)) h.size (RL.out.below h (Nat.le_refl _)) h.size ⟨by omega, by have := hn1.out; omega⟩)
  obtain ⟨bq, hbq⟩ : ∃ b, queryOk c q2 = b := ⟨_, rfl⟩
  have HQ1 := Lib.hid (fun W (h : Below w5.heap.size w5 W) => (by have h2 := impl_QueryOk c _ q2 _ _ W (RK.out.below h (Nat.le_refl _)) h.size (RP2.out.below h (Nat.le_refl _)) h.size (RI2.out.below h (Nat.le_refl _)) h.size hqk2.out.1 (Nat.le_trans hqk2.out.2.1 (by decide)); rw [hbq] at h2; exact h2))
  have HQ2 := Lib.hid (fun W (h : Below w5.heap.size w5 W) => (by have h2 := spec_QueryOk c _ q2 _ _ W (RK.out.below h (Nat.le_refl _)) h.size (RP2.out.below h (Nat.le_refl _)) h.size (RI2.out.below h (Nat.le_refl _)) h.size hqk2.out.1 (Nat.le_trans hqk2.out.2.1 (by decide)); rw [hbq] at h2; exact h2))
  have HSR := Lib.hid (fun W (h : Below w5.heap.size w5 W) (y : Value) (lo : Nat) (hy : RdR W lo W.heap.size y (meant q l)) => law_sameRows (meant q l) _ y W (RM.out.below h (Nat.le_refl _)) h.size hy (Nat.le_refl _))
  have hbb : (bq != bq) = false := by simp
  clear hbq
  have HK : Hid (∀ W, Below w5.heap.size w5 W → (W.cell? ⟨w1.heap.size, 0, none⟩ = some (.int .i64 q.kind) ∧ W.cell? ⟨w1.heap.size, 1, none⟩ = some (.int .i64 q.p.kind) ∧ W.cell? ⟨w1.heap.size, 2, none⟩ = some (.int .i64 q.p.col) ∧ W.cell? ⟨w1.heap.size, 3, none⟩ = some (.int .i64 q.p.op) ∧ W.cell? ⟨w1.heap.size, 4, none⟩ = some (.int .i64 q.p.v.ty) ∧ W.cell? ⟨w1.heap.size, 5, none⟩ = some (.int .i64 q.p.v.n) ∧ W.cell? ⟨w1.heap.size, 6, none⟩ = some (.string q.p.v.s) ∧ W.cell? ⟨w1.heap.size, 7, none⟩ = some (.slice A2 q.p.l.length c2) ∧ W.cell? ⟨w1.heap.size, 8, none⟩ = some (.int .i64 q.col) ∧ W.cell? ⟨w1.heap.size, 9, none⟩ = some (.slice A3 q.out.length c3)) ∧ (W.cell? ⟨w4.heap.size, 0, none⟩ = some (.int .i64 q2.kind) ∧ W.cell? ⟨w4.heap.size, 1, none⟩ = some (.int .i64 q2.p.kind) ∧ W.cell? ⟨w4.heap.size, 2, none⟩ = some (.int .i64 q2.p.col) ∧ W.cell? ⟨w4.heap.size, 3, none⟩ = some (.int .i64 q2.p.op) ∧ W.cell? ⟨w4.heap.size, 4, none⟩ = some (.int .i64 q2.p.v.ty) ∧ W.cell? ⟨w4.heap.size, 5, none⟩ = some (.int .i64 q2.p.v.n) ∧ W.cell? ⟨w4.heap.size, 6, none⟩ = some (.string q2.p.v.s) ∧ W.cell? ⟨w4.heap.size, 7, none⟩ = some (.slice A9 q2.p.l.length c9) ∧ W.cell? ⟨w4.heap.size, 8, none⟩ = some (.int .i64 q2.col) ∧ W.cell? ⟨w4.heap.size, 9, none⟩ = some (.slice A10 q2.out.length c10))) := Lib.hid fun W h => by
    have u0 := T3.out.go h
    have u1 := T7.out.go h
    exact ⟨⟨cell_of_row W _ 0 _ _ _ u0, cell_of_row W _ 1 _ _ _ u0, cell_of_row W _ 2 _ _ _ u0, cell_of_row W _ 3 _ _ _ u0, cell_of_row W _ 4 _ _ _ u0, cell_of_row W _ 5 _ _ _ u0, cell_of_row W _ 6 _ _ _ u0, cell_of_row W _ 7 _ _ _ u0, cell_of_row W _ 8 _ _ _ u0, cell_of_row W _ 9 _ _ _ u0⟩, ⟨cell_of_row W _ 0 _ _ _ u1, cell_of_row W _ 1 _ _ _ u1, cell_of_row W _ 2 _ _ _ u1, cell_of_row W _ 3 _ _ _ u1, cell_of_row W _ 4 _ _ _ u1, cell_of_row W _ 5 _ _ _ u1, cell_of_row W _ 6 _ _ _ u1, cell_of_row W _ 7 _ _ _ u1, cell_of_row W _ 8 _ _ _ u1, cell_of_row W _ 9 _ _ _ u1⟩⟩
  have HBq := Lib.hid ((Below.refl w5.heap.size w5).drew)
  have FS := Lib.hid (HK.out _ HBq.out)
  go_wp2_with fail
  go_region_held3 (fun w' => (w'.cell? ⟨w1.heap.size, 0, none⟩ = some (.int .i64 q.kind) ∧ w'.cell? ⟨w1.heap.size, 1, none⟩ = some (.int .i64 q.p.kind) ∧ w'.cell? ⟨w1.heap.size, 2, none⟩ = some (.int .i64 q.p.col) ∧ w'.cell? ⟨w1.heap.size, 3, none⟩ = some (.int .i64 q.p.op) ∧ w'.cell? ⟨w1.heap.size, 4, none⟩ = some (.int .i64 q.p.v.ty) ∧ w'.cell? ⟨w1.heap.size, 5, none⟩ = some (.int .i64 q.p.v.n) ∧ w'.cell? ⟨w1.heap.size, 6, none⟩ = some (.string q.p.v.s) ∧ w'.cell? ⟨w1.heap.size, 7, none⟩ = some (.slice A2 q.p.l.length c2) ∧ w'.cell? ⟨w1.heap.size, 8, none⟩ = some (.int .i64 q.col) ∧ w'.cell? ⟨w1.heap.size, 9, none⟩ = some (.slice A3 q.out.length c3)) ∧ (w'.cell? ⟨w4.heap.size, 0, none⟩ = some (.int .i64 q2.kind) ∧ w'.cell? ⟨w4.heap.size, 1, none⟩ = some (.int .i64 q2.p.kind) ∧ w'.cell? ⟨w4.heap.size, 2, none⟩ = some (.int .i64 q2.p.col) ∧ w'.cell? ⟨w4.heap.size, 3, none⟩ = some (.int .i64 q2.p.op) ∧ w'.cell? ⟨w4.heap.size, 4, none⟩ = some (.int .i64 q2.p.v.ty) ∧ w'.cell? ⟨w4.heap.size, 5, none⟩ = some (.int .i64 q2.p.v.n) ∧ w'.cell? ⟨w4.heap.size, 6, none⟩ = some (.string q2.p.v.s) ∧ w'.cell? ⟨w4.heap.size, 7, none⟩ = some (.slice A9 q2.p.l.length c9) ∧ w'.cell? ⟨w4.heap.size, 8, none⟩ = some (.int .i64 q2.col) ∧ w'.cell? ⟨w4.heap.size, 9, none⟩ = some (.slice A10 q2.out.length c10))) (first | with_reducible exact FS.out | go_keep) (first | (go_at_call 10; ((with_reducible refine (HM1.out _ HBq.out).mono ?_); rintro e w6 ⟨_, rfl, ho, hb6⟩; have HY := Lib.hid ho.rdR; (obtain ⟨Ay, cy, rfl, -, -⟩ := HY.out.form); clear ho; replace HBq := Lib.hid (HBq.out.trans (hb6.mono HBq.out.size)); have FS := Lib.hid (HK.out _ HBq.out); clear hb6)) | (go_at_call 9; ((with_reducible refine (HSR.out _ HBq.out _ _ HY.out).mono ?_); rintro e w6 ⟨rfl, hb6⟩; replace HBq := Lib.hid (HBq.out.trans (hb6.mono HBq.out.size)); have FS := Lib.hid (HK.out _ HBq.out); clear hb6)) | (go_at_call 11; ((with_reducible refine (HQ1.out _ HBq.out).mono ?_); rintro e w6 ⟨rfl, hb6⟩; replace HBq := Lib.hid (HBq.out.trans (hb6.mono HBq.out.size)); have FS := Lib.hid (HK.out _ HBq.out); clear hb6)) | (go_at_call 12; ((with_reducible refine (HQ2.out _ HBq.out).mono ?_); rintro e w6 ⟨rfl, hb6⟩; replace HBq := Lib.hid (HBq.out.trans (hb6.mono HBq.out.size)); have FS := Lib.hid (HK.out _ HBq.out); clear hb6)))
  have hb := HBq.out
  clear FS HBq HM1 HQ1 HQ2 HSR HK HY
  replace RC := Lib.hid (RC.out.go hb)
  replace RP := Lib.hid (RP.out.go hb)
  replace RI := Lib.hid (RI.out.go hb)
  replace RL := Lib.hid (RL.out.go hb)
  replace T3 := Lib.hid (T3.out.go hb)
  replace RM := Lib.hid (RM.out.go hb)
  replace RK := Lib.hid (RK.out.go hb)
  replace RP2 := Lib.hid (RP2.out.go hb)
  replace RI2 := Lib.hid (RI2.out.go hb)
  replace T7 := Lib.hid (T7.out.go hb)
  replace HB := Lib.hid (below_go HB.out hb)
  clear hb
  have HHo := Lib.hid (fun (r : R) (h : r ∈ meant q l) => (List.mem_filter.1 h).2)
  obtain ⟨rr, hrr⟩ : ∃ rr, answer q l = rr := ⟨_, rfl⟩
  have hidem : meant q (meant q l) = meant q l := by unfold meant; rw [List.filter_filter]; simp
  have hrr2 : answer q (meant q l) = rr := by unfold answer at hrr ⊢; rw [hidem]; exact hrr
  have hcn : (answer ⟨2, q.p, 0, []⟩ l).n = ((meant q l).length : Int) := rfl
  have Hrr := Lib.hid hrr
  have Hrr2 := Lib.hid hrr2
  have Hid2 := Lib.hid hidem
  have Hcn := Lib.hid hcn
  clear hrr hrr2 hidem hcn
  go_wp2_with fail
  go_loopw [8] (fun i wr => ∃ j : Nat, Hid (i = .int .i64 j ∧ j ≤ (meant q l).length ∧ Below w6.heap.size w6 wr)) (fun i _ => (meant q l).length - (intOf i).toNat)
  case atStart => exact ⟨0, Lib.hid ⟨rfl, Nat.zero_le _, Below.refl _ _⟩⟩
  case round =>
    obtain ⟨j, hrel⟩ := hrel
    obtain ⟨rfl, hj, hbr⟩ := hrel.out
    clear hrel
    have ht3 := T3.out.go hbr
    have k0 := cell_of_row wr (w1.heap.size) 0 _ _ _ ht3
    have k1 := cell_of_row wr (w1.heap.size) 1 _ _ _ ht3
    have k2 := cell_of_row wr (w1.heap.size) 2 _ _ _ ht3
    have k3 := cell_of_row wr (w1.heap.size) 3 _ _ _ ht3
    have k4 := cell_of_row wr (w1.heap.size) 4 _ _ _ ht3
    have k5 := cell_of_row wr (w1.heap.size) 5 _ _ _ ht3
    have k6 := cell_of_row wr (w1.heap.size) 6 _ _ _ ht3
    have k7 := cell_of_row wr (w1.heap.size) 7 _ _ _ ht3
    have k8 := cell_of_row wr (w1.heap.size) 8 _ _ _ ht3
    have k9 := cell_of_row wr (w1.heap.size) 9 _ _ _ ht3
    simp only [List.getElem?_toArray, List.getElem?_cons_zero, List.getElem?_cons_succ] at k0 k1 k2 k3 k4 k5 k6 k7 k8 k9
    by_cases hjl : j < (meant q l).length
    · obtain ⟨b, off, r, sv, rfl, -, hbl, hrk, e0, e1, hrv⟩ := (RM.out.below hbr (Nat.le_refl _)).at hjl
      obtain ⟨Av, cv, rfl, -, -⟩ := hrv.form
      have hhr : w6.heap.size ≤ wr.heap.size := hbr.size
      have hho := HHo.out r (mem_of_get hrk)
      have HH := Lib.hid (fun W (h : Below wr.heap.size wr W) => holds_of hho (impl_Holds q.p _ r.l _ W (RP.out.below (hbr.trans (h.mono hbr.size)) (Nat.le_refl _)) (Nat.le_trans hbr.size h.size) (hrv.below h hhr) (Nat.le_trans hhr h.size)))
      clear hrv hrk e0 hho ht3
      go_wp2_with fail
      have q_0 := cell_regrown (w := wr) k1
      have q_1 := cell_regrown (w := wr) k2
      have q_2 := cell_regrown (w := wr) k3
      have q_3 := cell_regrown (w := wr) k4
      have q_4 := cell_regrown (w := wr) k5
      have q_5 := cell_regrown (w := wr) k6
      have q_6 := cell_regrown (w := wr) k7
      have q_7 := cell_regrown (w := wr) e1
      refine wp_region_quiet_below (by kernel_rfl) (by kernel_rfl) ?_
      repeat (go_big_quiet_step (first | (go_at_call 13; exact Calls.regrown_of (HH.out _ (below_regrown _ _ _)))))
      refine wpQuiet_nil ?_
      intro wq hw'
      obtain ⟨⟨dq, osq⟩, hw''⟩ := hw'
      have hbq := below_regrown wr dq osq
      rw [← hw''] at hbq
      clear hw''
      clear q_0 q_1 q_2 q_3 q_4 q_5 q_6 q_7
      rename World => v1
      have Hbv := Lib.hid (hbr.trans (hbq.mono hbr.size))
      clear hbq hbr k0 k1 k2 k3 k4 k5 k6 k7 k8 k9 e1 HH
      go_wp2_with fail
      go_roundw
      case rel => exact ⟨j + 1, Lib.hid ⟨by go_num, by omega, Hbv.out⟩⟩
      case measure => simp [intOf]; omega
    · obtain rfl : j = (meant q l).length := by omega
      have Hbr := Lib.hid hbr
      clear hbr ht3
      go_wp2_with fail
      obtain ⟨W9, hW9⟩ : ∃ W9, (wr.alloc (.cells #[.int .i64 2, .int .i64 q.p.kind, .int .i64 q.p.col, .int .i64 q.p.op, .int .i64 q.p.v.ty, .int .i64 q.p.v.n, .string q.p.v.s, .slice A2 q.p.l.length c2, .int .i64 0, .slice none 0 0] 31)) = W9 := ⟨_, rfl⟩
      have hup := up_a1 wr (.cells #[.int .i64 2, .int .i64 q.p.kind, .int .i64 q.p.col, .int .i64 q.p.op, .int .i64 q.p.v.ty, .int .i64 q.p.v.n, .string q.p.v.s, .slice A2 q.p.l.length c2, .int .i64 0, .slice none 0 0] 31)
      have T9 : BlkAt (wr.alloc (.cells #[.int .i64 2, .int .i64 q.p.kind, .int .i64 q.p.col, .int .i64 q.p.op, .int .i64 q.p.v.ty, .int .i64 q.p.v.n, .string q.p.v.s, .slice A2 q.p.l.length c2, .int .i64 0, .slice none 0 0] 31)) wr.heap.size (.cells #[.int .i64 2, .int .i64 q.p.kind, .int .i64 q.p.col, .int .i64 q.p.op, .int .i64 q.p.v.ty, .int .i64 q.p.v.n, .string q.p.v.s, .slice A2 q.p.l.length c2, .int .i64 0, .slice none 0 0] 31) := heap_alloc_new _ _
      rw [hW9] at hup T9
      rw [hW9]
      clear hW9
      have T9 := Lib.hid T9
      have hbw : Below w6.heap.size w6 W9 := Hbr.out.trans (hup.mono Hbr.out.size)
      clear hup k0 k1 k2 k3 k4 k5 k6 k7 k8 k9

      replace RC := Lib.hid (RC.out.go hbw)
      replace RP := Lib.hid (RP.out.go hbw)
      replace RI := Lib.hid (RI.out.go hbw)
      replace RL := Lib.hid (RL.out.go hbw)
      replace T3 := Lib.hid (T3.out.go hbw)
      replace RM := Lib.hid (RM.out.go hbw)
      replace RK := Lib.hid (RK.out.go hbw)
      replace RP2 := Lib.hid (RP2.out.go hbw)
      replace RI2 := Lib.hid (RI2.out.go hbw)
      replace T7 := Lib.hid (T7.out.go hbw)
      replace HB := Lib.hid (below_go HB.out hbw)
      clear hbw Hbr
      have HA1 : Hid (∀ W, Below W9.heap.size W9 W → Calls Try.prog 15 #[.agg #[.int .i64 q.kind, .int .i64 q.p.kind, .int .i64 q.p.col, .int .i64 q.p.op, .int .i64 q.p.v.ty, .int .i64 q.p.v.n, .string q.p.v.s, .slice A2 q.p.l.length c2, .int .i64 q.col, .slice A3 q.out.length c3], .slice A6 (meant q l).length c6] W (fun e w' => ∃ v, e = .returned (.agg #[v, .int .i64 rr.n, .bool rr.has, .int .i64 rr.v.ty, .int .i64 rr.v.n, .string rr.v.s]) ∧ OwnR 43 25 w' W.heap.size w'.heap.size v rr.rows ∧ Below W.heap.size W w')) := Lib.hid fun W h => answer_of Hrr2.out (impl_Answer q _ _ (meant q l) _ W (RP.out.below h (Nat.le_refl _)) h.size (RI.out.below h (Nat.le_refl _)) h.size (RM.out.below h (Nat.le_refl _)) h.size ⟨by omega, by have := hn1.out; omega⟩ (Nat.le_trans hqk.out.2.2 (by decide)))
      have HA2 : Hid (∀ W, Below W9.heap.size W9 W → Calls Try.prog 15 #[.agg #[.int .i64 q.kind, .int .i64 q.p.kind, .int .i64 q.p.col, .int .i64 q.p.op, .int .i64 q.p.v.ty, .int .i64 q.p.v.n, .string q.p.v.s, .slice A2 q.p.l.length c2, .int .i64 q.col, .slice A3 q.out.length c3], .slice A4 l.length c4] W (fun e w' => ∃ v, e = .returned (.agg #[v, .int .i64 rr.n, .bool rr.has, .int .i64 rr.v.ty, .int .i64 rr.v.n, .string rr.v.s]) ∧ OwnR 43 25 w' W.heap.size w'.heap.size v rr.rows ∧ Below W.heap.size W w')) := Lib.hid fun W h => answer_of Hrr.out (impl_Answer q _ _ l _ W (RP.out.below h (Nat.le_refl _)) h.size (RI.out.below h (Nat.le_refl _)) h.size (RL.out.below h (Nat.le_refl _)) h.size ⟨by omega, by have := hn1.out; omega⟩ (Nat.le_trans hqk.out.2.2 (by decide)))
      obtain ⟨cc, hcc⟩ : ∃ cc, answer ⟨2, q.p, 0, []⟩ l = cc := ⟨_, rfl⟩
      have hccn : cc.n = ((meant q l).length : Int) := by rw [← hcc]; exact Hcn.out
      have HA3 : Hid (∀ W, Below W9.heap.size W9 W → Calls Try.prog 15 #[.agg #[.int .i64 2, .int .i64 q.p.kind, .int .i64 q.p.col, .int .i64 q.p.op, .int .i64 q.p.v.ty, .int .i64 q.p.v.n, .string q.p.v.s, .slice A2 q.p.l.length c2, .int .i64 0, .slice none 0 0], .slice A4 l.length c4] W (fun e w' => ∃ v, e = .returned (.agg #[v, .int .i64 ((meant q l).length : Int), .bool cc.has, .int .i64 cc.v.ty, .int .i64 cc.v.n, .string cc.v.s]) ∧ OwnR 43 25 w' W.heap.size w'.heap.size v cc.rows ∧ Below W.heap.size W w')) := Lib.hid fun W h => answer_of2 hcc hccn (impl_Answer ⟨2, q.p, 0, []⟩ _ (.slice none 0 0) l _ W (RP.out.below h (Nat.le_refl _)) h.size (own_ints_no W 3 0 W.heap.size).rdI (Nat.le_refl _) (RL.out.below h (Nat.le_refl _)) h.size ⟨by omega, by have := hn1.out; omega⟩ (by simp))
      have HM3 := Lib.hid (fun W (h : Below W9.heap.size W9 W) => meant_of Hid2.out (impl_Meant q _ _ (meant q l) _ W (RP.out.below h (Nat.le_refl _)) h.size (RI.out.below h (Nat.le_refl _)) h.size (RM.out.below h (Nat.le_refl _)) h.size ⟨by omega, by have := hn1.out; omega⟩))
      have HSR := Lib.hid (fun W (h : Below W9.heap.size W9 W) (y : Value) (lo : Nat) (hy : RdR W lo W.heap.size y (meant q l)) => law_sameRows (meant q l) y _ W hy (Nat.le_refl _) (RM.out.below h (Nat.le_refl _)) h.size)
      clear hcc hccn
      have hfd : ∀ (v : Value) (W : World), (Instr.field 46 (.agg #[v, .int .i64 ((meant q l).length : Int), .bool cc.has, .int .i64 cc.v.ty, .int .i64 cc.v.n, .string cc.v.s]) 1).run Try.prog W = .ok (.int .i64 ((meant q l).length : Int)) W := fun _ _ => by kernel_rfl
      have HK : Hid (∀ W, Below W9.heap.size W9 W → (W.cell? ⟨w1.heap.size, 0, none⟩ = some (.int .i64 q.kind) ∧ W.cell? ⟨w1.heap.size, 1, none⟩ = some (.int .i64 q.p.kind) ∧ W.cell? ⟨w1.heap.size, 2, none⟩ = some (.int .i64 q.p.col) ∧ W.cell? ⟨w1.heap.size, 3, none⟩ = some (.int .i64 q.p.op) ∧ W.cell? ⟨w1.heap.size, 4, none⟩ = some (.int .i64 q.p.v.ty) ∧ W.cell? ⟨w1.heap.size, 5, none⟩ = some (.int .i64 q.p.v.n) ∧ W.cell? ⟨w1.heap.size, 6, none⟩ = some (.string q.p.v.s) ∧ W.cell? ⟨w1.heap.size, 7, none⟩ = some (.slice A2 q.p.l.length c2) ∧ W.cell? ⟨w1.heap.size, 8, none⟩ = some (.int .i64 q.col) ∧ W.cell? ⟨w1.heap.size, 9, none⟩ = some (.slice A3 q.out.length c3)) ∧ (W.cell? ⟨wr.heap.size, 0, none⟩ = some (.int .i64 2) ∧ W.cell? ⟨wr.heap.size, 1, none⟩ = some (.int .i64 q.p.kind) ∧ W.cell? ⟨wr.heap.size, 2, none⟩ = some (.int .i64 q.p.col) ∧ W.cell? ⟨wr.heap.size, 3, none⟩ = some (.int .i64 q.p.op) ∧ W.cell? ⟨wr.heap.size, 4, none⟩ = some (.int .i64 q.p.v.ty) ∧ W.cell? ⟨wr.heap.size, 5, none⟩ = some (.int .i64 q.p.v.n) ∧ W.cell? ⟨wr.heap.size, 6, none⟩ = some (.string q.p.v.s) ∧ W.cell? ⟨wr.heap.size, 7, none⟩ = some (.slice A2 q.p.l.length c2) ∧ W.cell? ⟨wr.heap.size, 8, none⟩ = some (.int .i64 0) ∧ W.cell? ⟨wr.heap.size, 9, none⟩ = some (.slice none 0 0))) := Lib.hid fun W h => by
        have u0 := T3.out.go h
        have u1 := T9.out.go h
        exact ⟨⟨cell_of_row W _ 0 _ _ _ u0, cell_of_row W _ 1 _ _ _ u0, cell_of_row W _ 2 _ _ _ u0, cell_of_row W _ 3 _ _ _ u0, cell_of_row W _ 4 _ _ _ u0, cell_of_row W _ 5 _ _ _ u0, cell_of_row W _ 6 _ _ _ u0, cell_of_row W _ 7 _ _ _ u0, cell_of_row W _ 8 _ _ _ u0, cell_of_row W _ 9 _ _ _ u0⟩, ⟨cell_of_row W _ 0 _ _ _ u1, cell_of_row W _ 1 _ _ _ u1, cell_of_row W _ 2 _ _ _ u1, cell_of_row W _ 3 _ _ _ u1, cell_of_row W _ 4 _ _ _ u1, cell_of_row W _ 5 _ _ _ u1, cell_of_row W _ 6 _ _ _ u1, cell_of_row W _ 7 _ _ _ u1, cell_of_row W _ 8 _ _ _ u1, cell_of_row W _ 9 _ _ _ u1⟩⟩
      have HBq := Lib.hid ((Below.refl W9.heap.size W9).drew)
      have FS := Lib.hid (HK.out _ HBq.out)
      go_wp2_with fail
      go_region_held3 (fun w' => (w'.cell? ⟨w1.heap.size, 0, none⟩ = some (.int .i64 q.kind) ∧ w'.cell? ⟨w1.heap.size, 1, none⟩ = some (.int .i64 q.p.kind) ∧ w'.cell? ⟨w1.heap.size, 2, none⟩ = some (.int .i64 q.p.col) ∧ w'.cell? ⟨w1.heap.size, 3, none⟩ = some (.int .i64 q.p.op) ∧ w'.cell? ⟨w1.heap.size, 4, none⟩ = some (.int .i64 q.p.v.ty) ∧ w'.cell? ⟨w1.heap.size, 5, none⟩ = some (.int .i64 q.p.v.n) ∧ w'.cell? ⟨w1.heap.size, 6, none⟩ = some (.string q.p.v.s) ∧ w'.cell? ⟨w1.heap.size, 7, none⟩ = some (.slice A2 q.p.l.length c2) ∧ w'.cell? ⟨w1.heap.size, 8, none⟩ = some (.int .i64 q.col) ∧ w'.cell? ⟨w1.heap.size, 9, none⟩ = some (.slice A3 q.out.length c3)) ∧ (w'.cell? ⟨wr.heap.size, 0, none⟩ = some (.int .i64 2) ∧ w'.cell? ⟨wr.heap.size, 1, none⟩ = some (.int .i64 q.p.kind) ∧ w'.cell? ⟨wr.heap.size, 2, none⟩ = some (.int .i64 q.p.col) ∧ w'.cell? ⟨wr.heap.size, 3, none⟩ = some (.int .i64 q.p.op) ∧ w'.cell? ⟨wr.heap.size, 4, none⟩ = some (.int .i64 q.p.v.ty) ∧ w'.cell? ⟨wr.heap.size, 5, none⟩ = some (.int .i64 q.p.v.n) ∧ w'.cell? ⟨wr.heap.size, 6, none⟩ = some (.string q.p.v.s) ∧ w'.cell? ⟨wr.heap.size, 7, none⟩ = some (.slice A2 q.p.l.length c2) ∧ w'.cell? ⟨wr.heap.size, 8, none⟩ = some (.int .i64 0) ∧ w'.cell? ⟨wr.heap.size, 9, none⟩ = some (.slice none 0 0))) (first | with_reducible exact FS.out | go_keep) (first | (go_at_call 15; ((with_reducible refine (HA1.out _ HBq.out).mono ?_); rintro e x6 ⟨v1, rfl, ho, hb6⟩; have R1 := Lib.hid ho.rdR; (obtain ⟨A21, c21, rfl, -, -⟩ := R1.out.form); have HB1 := Lib.hid (Below.refl x6.heap.size x6); (try (replace HB2 := Lib.hid (HB2.out.trans (hb6.mono HB2.out.size)))); clear ho; replace HBq := Lib.hid (HBq.out.trans (hb6.mono HBq.out.size)); have FS := Lib.hid (HK.out _ HBq.out); clear hb6)) | (go_at_call 15; ((with_reducible refine (HA2.out _ HBq.out).mono ?_); rintro e y6 ⟨v2, rfl, ho, hb6⟩; have R2 := Lib.hid ho.rdR; (obtain ⟨A22, c22, rfl, -, -⟩ := R2.out.form); have HB2 := Lib.hid (Below.refl y6.heap.size y6); (try (replace HB1 := Lib.hid (HB1.out.trans (hb6.mono HB1.out.size)))); clear ho; replace HBq := Lib.hid (HBq.out.trans (hb6.mono HBq.out.size)); have FS := Lib.hid (HK.out _ HBq.out); clear hb6)) | (go_at_call 15; ((with_reducible refine (HA3.out _ HBq.out).mono ?_); rintro e z6 ⟨v3, rfl, ho, hb6⟩; (obtain ⟨A23, c23, rfl, -, -⟩ := ho.rdR.form); clear ho; replace HBq := Lib.hid (HBq.out.trans (hb6.mono HBq.out.size)); have FS := Lib.hid (HK.out _ HBq.out); clear hb6)) | (go_at_call 14; ((with_reducible refine (law_sameResult rr _ _ _ (R1.out.below HB1.out (Nat.le_refl _)) HB1.out.size (R2.out.below HB2.out (Nat.le_refl _)) HB2.out.size).mono ?_); rintro e s6 ⟨rfl, hb6⟩; replace HBq := Lib.hid (HBq.out.trans (hb6.mono HBq.out.size)); have FS := Lib.hid (HK.out _ HBq.out); clear hb6)) | (go_at_call 7; ((with_reducible refine (HM3.out _ HBq.out).mono ?_); rintro e m6 ⟨_, rfl, ho, hb6⟩; have HY := Lib.hid ho.rdR; (obtain ⟨Ay, cy, rfl, -, -⟩ := HY.out.form); clear ho; replace HBq := Lib.hid (HBq.out.trans (hb6.mono HBq.out.size)); have FS := Lib.hid (HK.out _ HBq.out); clear hb6)) | (go_at_call 9; ((with_reducible refine (HSR.out _ HBq.out _ _ HY.out).mono ?_); rintro e r6 ⟨rfl, hb6⟩; replace HBq := Lib.hid (HBq.out.trans (hb6.mono HBq.out.size)); have FS := Lib.hid (HK.out _ HBq.out); clear hb6)))
      all_goals
        have hb := HBq.out
        clear FS
        go_wp2_with fail
        go_ret
        exact ⟨rfl, below_go HB.out hb⟩
end Go.Proofs.Ytidmlfjolhnnfaa
