/- Valid predicates (the program): contracts. -/
import Derived.Test.YtidmlfjolhnnfaaS34
namespace Go.Lb
def cntV (cols : List Int) (k : Nat) (p : P) : Int := if deepOk cols k p then 1 + (cntP p.l : Nat) else -1
theorem cntV_no {cols : List Int} {k : Nat} {p : P} (h : deepOk cols k p = false) : cntV cols k p = -1 := by simp [cntV, h]
theorem cntV_yes {cols : List Int} {k : Nat} {p : P} (h : deepOk cols k p = true) : cntV cols k p = 1 + (cntP p.l : Nat) := by simp [cntV, h]
end Go.Lb
namespace Go.Proofs.Ytidmlfjolhnnfaa
open Go.Sort Go.ChangeShapes Go.WideShapes Go.ChangeAt Go.RowKit Go.Lb
def CntC (cols : List Int) (cv : Value) (k : Nat) (p : P) : Prop := ∀ (d : Int), d = (k : Int) → k ≤ 4 → POk p → cntP p.l ≤ 1048576 → ∀ (sv : Value) (w : World) (lo hi l1 h1 : Nat), RdP w lo hi sv p.l → hi ≤ w.heap.size → RdI w l1 h1 cv cols → h1 ≤ w.heap.size →
    Calls Try.prog 43 #[cv, .agg #[.int .i64 p.kind, .int .i64 p.col, .int .i64 p.op, .int .i64 p.v.ty, .int .i64 p.v.n, .string p.v.s, sv], .int .i64 d] w fun e w' => e = .returned (.int .i64 (cntV cols k p)) ∧ Below w.heap.size w w'
set_option maxRecDepth 20000 in
set_option maxHeartbeats 8000000 in
theorem cnt_0 (cols : List Int) (cv : Value) (p : P) : CntC cols cv 0 p := by
  intro d hd _ _ _
  intro sv w lo hi l1 h1 hx hhi hc hh1
  obtain rfl : d = 0 := by omega
  clear hd
  have H := Lib.hid (cntV_no (cols := cols) (k := 0) (p := p) rfl)
  have hb0 := Lib.hid (up_a1 w (.cells #[.int .i64 p.kind, .int .i64 p.col, .int .i64 p.op, .int .i64 p.v.ty, .int .i64 p.v.n, .string p.v.s, sv] 28))
  go_enter Try.func43, Try.ntmps43
  go_wp2_with fail
  go_ret
  exact ⟨ret_int H.out.symm, hb0.out⟩
set_option maxRecDepth 20000 in
set_option maxHeartbeats 8000000 in
theorem cnt_k1 (cols : List Int) (cv : Value) (k : Nat) (IHc : ∀ p, CntC cols cv k p) (p : P) (k1 : p.kind = 1) : CntC cols cv (k + 1) p := by
  have Hk1 := Lib.hid k1
  clear k1
  intro d hd hk4 hok hcn
  have IH := Lib.hid IHc
  have Hd := Lib.hid hd
  intro sv w lo hi l1 h1 hx hhi hc hh1
  obtain ⟨A, c, rfl, hl, hl2⟩ := hx.form
  obtain ⟨Ac, cc, rfl, hcl, hcl2⟩ := hc.form
  have hb0 := up_a1 w (.cells #[.int .i64 p.kind, .int .i64 p.col, .int .i64 p.op, .int .i64 p.v.ty, .int .i64 p.v.n, .string p.v.s, .slice A p.l.length c] 28)
  have Hcb := Lib.hid (heap_alloc_new w (.cells #[.int .i64 p.kind, .int .i64 p.col, .int .i64 p.op, .int .i64 p.v.ty, .int .i64 p.v.n, .string p.v.s, .slice A p.l.length c] 28))
  have hs0 : (w.alloc (.cells #[.int .i64 p.kind, .int .i64 p.col, .int .i64 p.op, .int .i64 p.v.ty, .int .i64 p.v.n, .string p.v.s, .slice A p.l.length c] 28)).heap.size = w.heap.size + 1 := by simp
  have hlt : decide (d < 1) = false := decide_eq_false (by omega)
  have hwd : IntKind.i64.wrap (d - 1) = d - 1 := IntWalk.i64_in _ ⟨by omega, by omega⟩
  have hwc : IntKind.i64.wrap ((cols.length : Int) - 1) = (cols.length : Int) - 1 := IntWalk.i64_in _ ⟨by omega, by omega⟩
  clear hd
  have HOk := Lib.hid hok.2
  have he := eql_zero p.v
  have hgd := guard_V
  by_cases hl4 : 4 < p.l.length
  · have hdl : decide (4 < (p.l.length : Int)) = true := decide_eq_true (by omega)
    have H := Lib.hid (cntV_no (cols := cols) (k := k + 1) (p := p) (by
      cases h : deepOk cols (k + 1) p
      · rfl
      · simp only [deepOk, Bool.and_eq_true] at h
        have := formOk_len h.1
        omega))
    clear hl4
    go_enter Try.func43, Try.ntmps43
    go_wp2_with fail
    go_ret
    exact ⟨ret_int H.out.symm, hb0⟩
  have hdl : decide (4 < (p.l.length : Int)) = false := decide_eq_false (by omega)
  go_enter Try.func43, Try.ntmps43
  go_upto_region 3 with fail
  generalize (w.alloc (.cells #[.int .i64 p.kind, .int .i64 p.col, .int .i64 p.op, .int .i64 p.v.ty, .int .i64 p.v.n, .string p.v.s, .slice A p.l.length c] 28)) = W1 at *
  have q0 := cell_of_row W1 _ 0 _ _ _ Hcb.out
  have q1 := cell_of_row W1 _ 1 _ _ _ Hcb.out
  have q2 := cell_of_row W1 _ 2 _ _ _ Hcb.out
  have q3 := cell_of_row W1 _ 3 _ _ _ Hcb.out
  have q4 := cell_of_row W1 _ 4 _ _ _ Hcb.out
  have q5 := cell_of_row W1 _ 5 _ _ _ Hcb.out
  have q6 := cell_of_row W1 _ 6 _ _ _ Hcb.out
  simp only [List.getElem?_toArray, List.getElem?_cons_zero, List.getElem?_cons_succ] at q0 q1 q2 q3 q4 q5 q6
  go_cut [7] from 21 to 34 (fun s wx => s = .bool (bareP p) ∧ W1 = wx)
  case first =>
    rcases bare_cases p with ⟨hB, b1⟩ | ⟨hB, b1, b2⟩ | ⟨hB, b1, b2, b3⟩ | ⟨hB, b1, b2, b3⟩
    all_goals
      have HB := Lib.hid hB
      try rw [b3] at he
      clear hB
      try clear b3
      go_wp2_with fail
      go_meet
      exact ⟨by rw [HB.out], rfl⟩
  case rest =>
    obtain ⟨rfl, rfl⟩ := hcut
    obtain ⟨b, hB⟩ : ∃ b, bareP p = b := ⟨_, rfl⟩
    have HB := Lib.hid hB
    rw [hB]
    clear hB he
    have k1 := Hk1.out
    have F := Lib.hid (formOk_1 (cols := cols) k1)
    have d1 : (p.kind == 1) = true := by simp [k1]
    have d2 : (p.kind == 2) = false := by simp [k1]
    have d3 : (p.kind == 3) = false := by simp [k1]
    have d4 : (p.kind == 4) = false := by simp [k1]
    have d5 : (p.kind == 5) = false := by simp [k1]
    clear k1
    cases b
    · have F := Lib.hid (show formOk cols p = false by rw [F.out, HB.out]; rfl)
      have H := Lib.hid (cntV_no (cols := cols) (k := k + 1) (p := p) (by rw [deepOk, F.out]; rfl))
      go_wp2_with fail
      go_ret
      exact ⟨ret_int H.out.symm, hb0⟩
    · by_cases hz : p.l.length = 0
      · have hz0 : ((p.l.length : Int) == 0) = true := by rw [hz]; rfl
        have F := Lib.hid (show formOk cols p = true by rw [F.out, HB.out, hz]; rfl)
        have Hz := Lib.hid hz
        clear hz
        have hbc := Below.refl W1.heap.size W1
        have hbW := hb0.trans (hbc.mono (by omega))
        go_wp2_with fail
        go_loopw [9, 105] (fun s i wr => ∃ q : Nat, i = .int .i64 q ∧ q ≤ p.l.length ∧ s = .int .i64 (1 + (cntP (p.l.take q) : Nat)) ∧ (p.l.take q).all (deepOk cols k) = true ∧ Below w.heap.size w wr) (fun _ i _ => p.l.length - (intOf i).toNat)
        case atStart => exact ⟨0, rfl, by omega, by simp [cntP_nil], by simp, hbW⟩
        case round =>
          obtain ⟨q, rfl, hq, rfl, hall, hb⟩ := hrel
          have Hall := Lib.hid hall
          clear hall
          have hbs := hb.size
          by_cases hql : q < p.l.length
          · exact absurd hql (by have := Hz.out; omega)
          · obtain rfl : q = p.l.length := by omega
            have H := Lib.hid (cntV_yes (cols := cols) (k := k + 1) (p := p) (by rw [deep_end Hall.out, F.out]))
            rw [List.take_length]
            go_wp2_with fail
            go_ret
            exact ⟨ret_int H.out.symm, hb⟩
      · have hz0 : ((p.l.length : Int) == 0) = false := beq_eq_false_iff_ne.2 (by omega)
        have F := Lib.hid (show formOk cols p = false by rw [F.out, HB.out]; simp [hz])
        clear hz
        have H := Lib.hid (cntV_no (cols := cols) (k := k + 1) (p := p) (by rw [deepOk, F.out]; rfl))
        go_wp2_with fail
        go_ret
        exact ⟨ret_int H.out.symm, hb0⟩
set_option maxRecDepth 20000 in
set_option maxHeartbeats 8000000 in
theorem cnt_no (cols : List Int) (cv : Value) (k : Nat) (IHc : ∀ p, CntC cols cv k p) (p : P) (k1 : ¬ p.kind = 1) (k2 : ¬ p.kind = 2) (k3 : ¬ p.kind = 3) (k4 : ¬ p.kind = 4) (k5 : ¬ p.kind = 5) : CntC cols cv (k + 1) p := by
  have Hk1 := Lib.hid k1
  have Hk2 := Lib.hid k2
  have Hk3 := Lib.hid k3
  have Hk4 := Lib.hid k4
  have Hk5 := Lib.hid k5
  clear k1 k2 k3 k4 k5
  intro d hd hk4 hok hcn
  have IH := Lib.hid IHc
  have Hd := Lib.hid hd
  intro sv w lo hi l1 h1 hx hhi hc hh1
  obtain ⟨A, c, rfl, hl, hl2⟩ := hx.form
  obtain ⟨Ac, cc, rfl, hcl, hcl2⟩ := hc.form
  have hb0 := up_a1 w (.cells #[.int .i64 p.kind, .int .i64 p.col, .int .i64 p.op, .int .i64 p.v.ty, .int .i64 p.v.n, .string p.v.s, .slice A p.l.length c] 28)
  have Hcb := Lib.hid (heap_alloc_new w (.cells #[.int .i64 p.kind, .int .i64 p.col, .int .i64 p.op, .int .i64 p.v.ty, .int .i64 p.v.n, .string p.v.s, .slice A p.l.length c] 28))
  have hs0 : (w.alloc (.cells #[.int .i64 p.kind, .int .i64 p.col, .int .i64 p.op, .int .i64 p.v.ty, .int .i64 p.v.n, .string p.v.s, .slice A p.l.length c] 28)).heap.size = w.heap.size + 1 := by simp
  have hlt : decide (d < 1) = false := decide_eq_false (by omega)
  have hwd : IntKind.i64.wrap (d - 1) = d - 1 := IntWalk.i64_in _ ⟨by omega, by omega⟩
  have hwc : IntKind.i64.wrap ((cols.length : Int) - 1) = (cols.length : Int) - 1 := IntWalk.i64_in _ ⟨by omega, by omega⟩
  clear hd
  have HOk := Lib.hid hok.2
  have he := eql_zero p.v
  have hgd := guard_V
  by_cases hl4 : 4 < p.l.length
  · have hdl : decide (4 < (p.l.length : Int)) = true := decide_eq_true (by omega)
    have H := Lib.hid (cntV_no (cols := cols) (k := k + 1) (p := p) (by
      cases h : deepOk cols (k + 1) p
      · rfl
      · simp only [deepOk, Bool.and_eq_true] at h
        have := formOk_len h.1
        omega))
    clear hl4
    go_enter Try.func43, Try.ntmps43
    go_wp2_with fail
    go_ret
    exact ⟨ret_int H.out.symm, hb0⟩
  have hdl : decide (4 < (p.l.length : Int)) = false := decide_eq_false (by omega)
  go_enter Try.func43, Try.ntmps43
  go_upto_region 3 with fail
  generalize (w.alloc (.cells #[.int .i64 p.kind, .int .i64 p.col, .int .i64 p.op, .int .i64 p.v.ty, .int .i64 p.v.n, .string p.v.s, .slice A p.l.length c] 28)) = W1 at *
  have q0 := cell_of_row W1 _ 0 _ _ _ Hcb.out
  have q1 := cell_of_row W1 _ 1 _ _ _ Hcb.out
  have q2 := cell_of_row W1 _ 2 _ _ _ Hcb.out
  have q3 := cell_of_row W1 _ 3 _ _ _ Hcb.out
  have q4 := cell_of_row W1 _ 4 _ _ _ Hcb.out
  have q5 := cell_of_row W1 _ 5 _ _ _ Hcb.out
  have q6 := cell_of_row W1 _ 6 _ _ _ Hcb.out
  simp only [List.getElem?_toArray, List.getElem?_cons_zero, List.getElem?_cons_succ] at q0 q1 q2 q3 q4 q5 q6
  go_cut [7] from 21 to 34 (fun s wx => s = .bool (bareP p) ∧ W1 = wx)
  case first =>
    rcases bare_cases p with ⟨hB, b1⟩ | ⟨hB, b1, b2⟩ | ⟨hB, b1, b2, b3⟩ | ⟨hB, b1, b2, b3⟩
    all_goals
      have HB := Lib.hid hB
      try rw [b3] at he
      clear hB
      try clear b3
      go_wp2_with fail
      go_meet
      exact ⟨by rw [HB.out], rfl⟩
  case rest =>
    obtain ⟨rfl, rfl⟩ := hcut
    obtain ⟨b, hB⟩ : ∃ b, bareP p = b := ⟨_, rfl⟩
    have HB := Lib.hid hB
    rw [hB]
    clear hB he
    have k1 := Hk1.out
    have k2 := Hk2.out
    have k3 := Hk3.out
    have k4 := Hk4.out
    have k5 := Hk5.out
    have F := Lib.hid (show formOk cols p = false by simp [formOk, k1, k2, k3, k4, k5])
    have d1 : (p.kind == 1) = false := by simp [k1]
    have d2 : (p.kind == 2) = false := by simp [k2]
    have d3 : (p.kind == 3) = false := by simp [k3]
    have d4 : (p.kind == 4) = false := by simp [k4]
    have d5 : (p.kind == 5) = false := by simp [k5]
    clear k1 k2 k3 k4 k5
    have H := Lib.hid (cntV_no (cols := cols) (k := k + 1) (p := p) (by rw [deepOk, F.out]; rfl))
    go_wp2_with fail
    go_ret
    exact ⟨ret_int H.out.symm, hb0⟩
end Go.Proofs.Ytidmlfjolhnnfaa
