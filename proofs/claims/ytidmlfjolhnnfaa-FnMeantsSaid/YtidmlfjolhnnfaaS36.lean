/- Valid predicates: contracts. -/
import Derived.Test.YtidmlfjolhnnfaaS35
namespace Go.Proofs.Ytidmlfjolhnnfaa
open Go.RowKit Go.Lb
def predOk (cols : List Int) (p : P) : Bool := colsOk cols && (deepOk cols 4 p && decide ((1 + (cntP p.l : Nat) : Int) ≤ 8))
theorem inR_cntV (cols : List Int) (p : P) : inR (cntV cols 4 p) 1 8 = (deepOk cols 4 p && decide ((1 + (cntP p.l : Nat) : Int) ≤ 8)) := by
  cases h : deepOk cols 4 p
  · rw [cntV_no h]; rfl
  · rw [cntV_yes h]
    simp only [inR, Bool.true_and]
    rw [decide_eq_true (show (1 : Int) ≤ 1 + (cntP p.l : Nat) by omega)]
    rfl
end Go.Proofs.Ytidmlfjolhnnfaa
namespace Go.Proofs.Ytidmlfjolhnnfaa
open Go.Sort Go.ChangeShapes Go.WideShapes Go.ChangeAt Go.RowKit Go.Lb

set_option maxRecDepth 20000 in
set_option maxHeartbeats 4000000 in
theorem spec_PredOk (cols : List Int) (cv : Value) (p : P) (sv : Value) (w : World) {lo hi l1 h1 : Nat} (hc : RdI w l1 h1 cv cols) (hh1 : h1 ≤ w.heap.size) (hx : RdP w lo hi sv p.l) (hhi : hi ≤ w.heap.size) (hok : POk p) (hn : cntP p.l ≤ 1048576) :
    Calls Try.prog 33 #[cv, .agg #[.int .i64 p.kind, .int .i64 p.col, .int .i64 p.op, .int .i64 p.v.ty, .int .i64 p.v.n, .string p.v.s, sv]] w fun e w' => e = .returned (.bool (predOk cols p)) ∧ Below w.heap.size w w' := by
  have hb0 := up_a1 w (.cells #[.int .i64 p.kind, .int .i64 p.col, .int .i64 p.op, .int .i64 p.v.ty, .int .i64 p.v.n, .string p.v.s, sv] 28)
  have Hcb := Lib.hid (heap_alloc_new w (.cells #[.int .i64 p.kind, .int .i64 p.col, .int .i64 p.op, .int .i64 p.v.ty, .int .i64 p.v.n, .string p.v.s, sv] 28))
  have hs0 : (w.alloc (.cells #[.int .i64 p.kind, .int .i64 p.col, .int .i64 p.op, .int .i64 p.v.ty, .int .i64 p.v.n, .string p.v.s, sv] 28)).heap.size = w.heap.size + 1 := by simp
  have hxW := hx.below hb0 hhi
  have hcW := hc.below hb0 hh1
  go_enter Try.func33, Try.ntmps33
  go_wp2_with fail
  generalize (w.alloc (.cells #[.int .i64 p.kind, .int .i64 p.col, .int .i64 p.op, .int .i64 p.v.ty, .int .i64 p.v.n, .string p.v.s, sv] 28)) = W1 at *
  refine (spec_ColsOk cols cv W1 hcW (by omega)).mono ?_
  rintro e w1 ⟨rfl, rfl⟩
  have q0 := cell_of_row W1 _ 0 _ _ _ Hcb.out
  have q1 := cell_of_row W1 _ 1 _ _ _ Hcb.out
  have q2 := cell_of_row W1 _ 2 _ _ _ Hcb.out
  have q3 := cell_of_row W1 _ 3 _ _ _ Hcb.out
  have q4 := cell_of_row W1 _ 4 _ _ _ Hcb.out
  have q5 := cell_of_row W1 _ 5 _ _ _ Hcb.out
  have q6 := cell_of_row W1 _ 6 _ _ _ Hcb.out
  simp only [List.getElem?_toArray, List.getElem?_cons_zero, List.getElem?_cons_succ] at q0 q1 q2 q3 q4 q5 q6
  cases hC : colsOk cols
  · have H := Lib.hid (show predOk cols p = false by rw [predOk, hC]; rfl)
    clear hC
    go_wp2_with fail
    go_ret
    exact ⟨ret_bool H.out.symm, hb0⟩
  · have C2 := Lib.hid (spec_l11Deep cols cv 4 p 1 (by decide) (by decide) hok sv W1 lo hi l1 h1 hxW (by omega) hcW (by omega))
    go_wp2_with fail
    refine C2.out.mono ?_
    rintro e w2 ⟨rfl, hb2⟩
    have Hq := Lib.hid ((hb2.block _ (by omega)).trans Hcb.out)
    clear q0 q1 q2 q3 q4 q5 q6
    have q0 := cell_of_row w2 _ 0 _ _ _ Hq.out
    have q1 := cell_of_row w2 _ 1 _ _ _ Hq.out
    have q2 := cell_of_row w2 _ 2 _ _ _ Hq.out
    have q3 := cell_of_row w2 _ 3 _ _ _ Hq.out
    have q4 := cell_of_row w2 _ 4 _ _ _ Hq.out
    have q5 := cell_of_row w2 _ 5 _ _ _ Hq.out
    have q6 := cell_of_row w2 _ 6 _ _ _ Hq.out
    simp only [List.getElem?_toArray, List.getElem?_cons_zero, List.getElem?_cons_succ] at q0 q1 q2 q3 q4 q5 q6
    cases hD : deepOk cols 4 p
    · have H := Lib.hid (show predOk cols p = false by rw [predOk, hC, hD]; rfl)
      clear hC hD
      go_wp2_with fail
      go_ret
      exact ⟨ret_bool H.out.symm, hb0.trans (hb2.mono (by omega))⟩
    · have H := Lib.hid (show predOk cols p = decide ((1 + (cntP p.l : Nat) : Int) ≤ 8) by rw [predOk, hC, hD]; rfl)
      clear hC hD
      have hz2 := hb2.size
      have C3 := Lib.hid (spec_Count_n (SizeOf.sizeOf p + 1) p (Nat.lt_succ_self _) hn sv w2 lo hi (hxW.below hb2 (by omega)) (by omega))
      generalize hM : (1 + (cntP p.l : Nat) : Int) = M at *
      clear hM
      go_wp2_with fail
      refine C3.out.mono ?_
      rintro e w3 ⟨rfl, hb3⟩
      go_wp2_with fail
      go_ret
      exact ⟨ret_bool H.out.symm, hb0.trans ((hb2.trans (hb3.mono hb2.size)).mono (by omega))⟩
set_option maxRecDepth 20000 in
set_option maxHeartbeats 4000000 in
theorem impl_PredOk (cols : List Int) (cv : Value) (p : P) (sv : Value) (w : World) {lo hi l1 h1 : Nat} (hc : RdI w l1 h1 cv cols) (hh1 : h1 ≤ w.heap.size) (hx : RdP w lo hi sv p.l) (hhi : hi ≤ w.heap.size) (hok : POk p) (hn : cntP p.l ≤ 1048576) :
    Calls Try.prog 20 #[cv, .agg #[.int .i64 p.kind, .int .i64 p.col, .int .i64 p.op, .int .i64 p.v.ty, .int .i64 p.v.n, .string p.v.s, sv]] w fun e w' => e = .returned (.bool (predOk cols p)) ∧ Below w.heap.size w w' := by
  have hb0 := up_a1 w (.cells #[.int .i64 p.kind, .int .i64 p.col, .int .i64 p.op, .int .i64 p.v.ty, .int .i64 p.v.n, .string p.v.s, sv] 28)
  have Hcb := Lib.hid (heap_alloc_new w (.cells #[.int .i64 p.kind, .int .i64 p.col, .int .i64 p.op, .int .i64 p.v.ty, .int .i64 p.v.n, .string p.v.s, sv] 28))
  have hs0 : (w.alloc (.cells #[.int .i64 p.kind, .int .i64 p.col, .int .i64 p.op, .int .i64 p.v.ty, .int .i64 p.v.n, .string p.v.s, sv] 28)).heap.size = w.heap.size + 1 := by simp
  have hxW := hx.below hb0 hhi
  have hcW := hc.below hb0 hh1
  go_enter Try.func20, Try.ntmps20
  go_wp2_with fail
  generalize (w.alloc (.cells #[.int .i64 p.kind, .int .i64 p.col, .int .i64 p.op, .int .i64 p.v.ty, .int .i64 p.v.n, .string p.v.s, sv] 28)) = W1 at *
  refine (impl_ColsOk cols cv W1 hcW (by omega)).mono ?_
  rintro e w1 ⟨rfl, rfl⟩
  have q0 := cell_of_row W1 _ 0 _ _ _ Hcb.out
  have q1 := cell_of_row W1 _ 1 _ _ _ Hcb.out
  have q2 := cell_of_row W1 _ 2 _ _ _ Hcb.out
  have q3 := cell_of_row W1 _ 3 _ _ _ Hcb.out
  have q4 := cell_of_row W1 _ 4 _ _ _ Hcb.out
  have q5 := cell_of_row W1 _ 5 _ _ _ Hcb.out
  have q6 := cell_of_row W1 _ 6 _ _ _ Hcb.out
  simp only [List.getElem?_toArray, List.getElem?_cons_zero, List.getElem?_cons_succ] at q0 q1 q2 q3 q4 q5 q6
  cases hC : colsOk cols
  · have H := Lib.hid (show predOk cols p = false by rw [predOk, hC]; rfl)
    clear hC
    go_wp2_with fail
    go_ret
    exact ⟨ret_bool H.out.symm, hb0⟩
  · have C2 := Lib.hid (impl_count cols cv 4 p 4 rfl (by decide) hok hn sv W1 lo hi l1 h1 hxW (by omega) hcW (by omega))
    have H := Lib.hid (show predOk cols p = inR (cntV cols 4 p) 1 8 by rw [predOk, hC, inR_cntV]; rfl)
    clear hC
    go_wp2_with fail
    refine C2.out.mono ?_
    rintro e w2 ⟨rfl, hb2⟩
    go_wp2_with fail
    refine (q_impl_within _ _ _ _).mono ?_
    rintro e w3 ⟨rfl, rfl⟩
    go_wp2_with fail
    go_ret
    exact ⟨ret_bool H.out.symm, hb0.trans (hb2.mono (by omega))⟩
end Go.Proofs.Ytidmlfjolhnnfaa
