/- Valid queries: contracts. -/
import Derived.Test.YtidmlfjolhnnfaaS36
import Derived.Test.YtidmlfjolhnnfaaXI
import Derived.Deep.CutRange
namespace Go.Proofs.Ytidmlfjolhnnfaa
open Go.RowKit Go.Lb
def colFit (cols : List Int) (q : Q) : Bool := inR q.col 0 ((cols.length : Int) - 1) && decide (q.out.length = 0)
def formQ (cols : List Int) (q : Q) : Bool :=
  if q.kind = 1 then q.out.all (fun k => inR k 0 ((cols.length : Int) - 1)) && ((q.col == 0) && inR (q.out.length : Int) 1 3)
  else if q.kind = 2 then (q.col == 0) && decide (q.out.length = 0)
  else if q.kind = 3 then colFit cols q && (match cols[q.col.toNat]? with | some c => c == 1 | none => false)
  else if q.kind = 4 then colFit cols q
  else if q.kind = 5 then colFit cols q else false
def queryOk (cols : List Int) (q : Q) : Bool := predOk cols q.p && formQ cols q
theorem formQ_1 {cols : List Int} {q : Q} (h : q.kind = 1) : formQ cols q = (q.out.all (fun k => inR k 0 ((cols.length : Int) - 1)) && ((q.col == 0) && inR (q.out.length : Int) 1 3)) := by simp [formQ, h]
theorem formQ_2 {cols : List Int} {q : Q} (h : q.kind = 2) : formQ cols q = ((q.col == 0) && decide (q.out.length = 0)) := by simp [formQ, h]
theorem formQ_3 {cols : List Int} {q : Q} (h : q.kind = 3) : formQ cols q = (colFit cols q && (match cols[q.col.toNat]? with | some c => c == 1 | none => false)) := by simp [formQ, h]
theorem formQ_4 {cols : List Int} {q : Q} (h : q.kind = 4) : formQ cols q = colFit cols q := by simp [formQ, h]
theorem formQ_5 {cols : List Int} {q : Q} (h : q.kind = 5) : formQ cols q = colFit cols q := by simp [formQ, h]
end Go.Proofs.Ytidmlfjolhnnfaa
namespace Go.Proofs.Ytidmlfjolhnnfaa
open Go.Sort Go.ChangeShapes Go.WideShapes Go.ChangeAt Go.RowKit Go.Lb
set_option maxRecDepth 20000 in
set_option maxHeartbeats 8000000 in
theorem spec_QueryOk (cols : List Int) (cv : Value) (q : Q) (sv ov : Value) (w : World) {lo hi l1 h1 l2 h2 : Nat} (hc : RdI w l1 h1 cv cols) (hh1 : h1 ≤ w.heap.size) (hx : RdP w lo hi sv q.p.l) (hhi : hi ≤ w.heap.size) (ho : RdI w l2 h2 ov q.out) (hh2 : h2 ≤ w.heap.size) (hok : POk q.p) (hn : cntP q.p.l ≤ 1048576) :
    Calls Try.prog 12 #[cv, .agg #[.int .i64 q.kind, .int .i64 q.p.kind, .int .i64 q.p.col, .int .i64 q.p.op, .int .i64 q.p.v.ty, .int .i64 q.p.v.n, .string q.p.v.s, sv, .int .i64 q.col, ov]] w fun e w' => e = .returned (.bool (queryOk cols q)) ∧ Below w.heap.size w w' := by
  obtain ⟨Ao, co, rfl, hol, hol2⟩ := ho.form
  obtain ⟨Ac, cc, rfl, hcl, hcl2⟩ := hc.form
  have hb0 := up_a1 w (.cells #[.int .i64 q.kind, .int .i64 q.p.kind, .int .i64 q.p.col, .int .i64 q.p.op, .int .i64 q.p.v.ty, .int .i64 q.p.v.n, .string q.p.v.s, sv, .int .i64 q.col, .slice Ao q.out.length co] 31)
  have Hcb := Lib.hid (heap_alloc_new w (.cells #[.int .i64 q.kind, .int .i64 q.p.kind, .int .i64 q.p.col, .int .i64 q.p.op, .int .i64 q.p.v.ty, .int .i64 q.p.v.n, .string q.p.v.s, sv, .int .i64 q.col, .slice Ao q.out.length co] 31))
  have hs0 : (w.alloc (.cells #[.int .i64 q.kind, .int .i64 q.p.kind, .int .i64 q.p.col, .int .i64 q.p.op, .int .i64 q.p.v.ty, .int .i64 q.p.v.n, .string q.p.v.s, sv, .int .i64 q.col, .slice Ao q.out.length co] 31)).heap.size = w.heap.size + 1 := by simp
  have hxW := hx.below hb0 hhi
  have hcW := hc.below hb0 hh1
  have hoW := ho.below hb0 hh2
  have hwc : IntKind.i64.wrap ((cols.length : Int) - 1) = (cols.length : Int) - 1 := IntWalk.i64_in _ ⟨by omega, by omega⟩
  go_enter Try.func12, Try.ntmps12
  go_wp2_with fail
  generalize (w.alloc (.cells #[.int .i64 q.kind, .int .i64 q.p.kind, .int .i64 q.p.col, .int .i64 q.p.op, .int .i64 q.p.v.ty, .int .i64 q.p.v.n, .string q.p.v.s, sv, .int .i64 q.col, .slice Ao q.out.length co] 31)) = W1 at *
  refine (spec_PredOk cols _ q.p sv W1 hcW (by omega) hxW (by omega) hok hn).mono ?_
  rintro e w2 ⟨rfl, hb2⟩
  have Hq := (hb2.block _ (by omega)).trans Hcb.out
  have q0 := cell_of_row w2 _ 0 _ _ _ Hq
  have q8 := cell_of_row w2 _ 8 _ _ _ Hq
  have q9 := cell_of_row w2 _ 9 _ _ _ Hq
  simp only [List.getElem?_toArray, List.getElem?_cons_zero, List.getElem?_cons_succ] at q0 q8 q9
  have hcW := hcW.below hb2 (by omega)
  have hoW := hoW.below hb2 (by omega)
  have hbE := hb0.trans (hb2.mono (by omega))
  have hz2 := hb2.size
  clear Hq hxW hb2 hx hc ho
  cases hP : predOk cols q.p
  · have H := Lib.hid (show queryOk cols q = false by rw [queryOk, hP]; rfl)
    clear hP
    go_wp2_with fail
    go_ret
    exact ⟨ret_bool H.out.symm, hbE⟩
  have HP := Lib.hid (show queryOk cols q = formQ cols q by rw [queryOk, hP]; rfl)
  clear hP
  by_cases k1 : q.kind = 1
  · have F := Lib.hid (HP.out.trans (formQ_1 (cols := cols) k1))
    have d1 : (q.kind == 1) = true := by simp [k1]
    have d2 : (q.kind == 2) = false := by simp [k1]
    have d3 : (q.kind == 3) = false := by simp [k1]
    have d4 : (q.kind == 4) = false := by simp [k1]
    have d5 : (q.kind == 5) = false := by simp [k1]
    clear k1
    go_wp2_with fail
    go_loopw [5] (fun i wr => ∃ k : Nat, i = .int .i64 k ∧ k ≤ q.out.length ∧ (q.out.take k).all (fun k => inR k 0 ((cols.length : Int) - 1)) = true ∧ w2 = wr) (fun i _ => q.out.length - (intOf i).toNat)
    case atStart => exact ⟨0, rfl, by omega, by simp, rfl⟩
    case round =>
      obtain ⟨k, rfl, hk, hall, rfl⟩ := hrel
      have Hall := Lib.hid hall
      clear hall
      by_cases hkl : k < q.out.length
      · obtain ⟨b, off, y, rfl, -, hbl, hyk, e0⟩ := hoW.at hkl
        have HN := Lib.hid (fun h => all_no (f := fun k => inR k 0 ((cols.length : Int) - 1)) hyk h)
        have HY := Lib.hid (fun h => all_step (f := fun k => inR k 0 ((cols.length : Int) - 1)) hyk Hall.out h)
        clear hyk
        cases hh : inR y 0 ((cols.length : Int) - 1)
        · have H := Lib.hid (show queryOk cols q = false by rw [F.out, HN.out hh]; rfl)
          go_wp2_with fail
          refine (q_spec_l1In y 0 ((cols.length : Int) - 1) _).mono ?_
          rintro e wz ⟨rfl, rfl⟩
          rw [hh]
          clear hh
          go_wp2_with fail
          go_ret
          exact ⟨ret_bool H.out.symm, hbE⟩
        · have HY := Lib.hid (HY.out hh)
          go_wp2_with fail
          refine (q_spec_l1In y 0 ((cols.length : Int) - 1) _).mono ?_
          rintro e wz ⟨rfl, rfl⟩
          rw [hh]
          clear hh
          go_wp2_with fail
          go_roundw
          case rel => exact ⟨k + 1, by go_num, by omega, HY.out, by first | rfl | trivial⟩
          case measure => simp [intOf]; omega
      · obtain rfl : k = q.out.length := by omega
        have HA := Lib.hid (all_end Hall.out)
        have F := Lib.hid (show queryOk cols q = ((q.col == 0) && inR (q.out.length : Int) 1 3) by rw [F.out, HA.out]; rfl)
        cases hc0 : (q.col == 0)
        · have H := Lib.hid (show queryOk cols q = false by rw [F.out, hc0]; rfl)
          go_wp2_with fail
          go_ret
          exact ⟨ret_bool H.out.symm, hbE⟩
        · have H := Lib.hid (show queryOk cols q = inR (q.out.length : Int) 1 3 by rw [F.out, hc0]; rfl)
          go_wp2_with fail
          refine (q_spec_l1In (q.out.length : Int) 1 3 _).mono ?_
          rintro e wz ⟨rfl, rfl⟩
          go_wp2_with fail
          go_ret
          exact ⟨ret_bool H.out.symm, hbE⟩
  by_cases k2 : q.kind = 2
  · have F := Lib.hid (HP.out.trans (formQ_2 (cols := cols) k2))
    have d1 : (q.kind == 1) = false := by simp [k2]
    have d2 : (q.kind == 2) = true := by simp [k2]
    have d3 : (q.kind == 3) = false := by simp [k2]
    have d4 : (q.kind == 4) = false := by simp [k2]
    have d5 : (q.kind == 5) = false := by simp [k2]
    clear k2
    cases hc0 : (q.col == 0)
    · have H := Lib.hid (show queryOk cols q = false by rw [F.out, hc0]; rfl)
      go_wp2_with fail
      go_ret
      exact ⟨ret_bool H.out.symm, hbE⟩
    · by_cases hz : q.out.length = 0
      · have hz0 : ((q.out.length : Int) == 0) = true := by rw [hz]; rfl
        have H := Lib.hid (show queryOk cols q = true by rw [F.out, hc0, hz]; rfl)
        clear hz
        go_wp2_with fail
        go_ret
        exact ⟨ret_bool H.out.symm, hbE⟩
      · have hz0 : ((q.out.length : Int) == 0) = false := beq_eq_false_iff_ne.2 (by omega)
        have H := Lib.hid (show queryOk cols q = false by rw [F.out, hc0, decide_eq_false hz]; rfl)
        clear hz
        go_wp2_with fail
        go_ret
        exact ⟨ret_bool H.out.symm, hbE⟩
  by_cases k3 : q.kind = 3
  · have F := Lib.hid (HP.out.trans (formQ_3 (cols := cols) k3))
    have d1 : (q.kind == 1) = false := by simp [k3]
    have d2 : (q.kind == 2) = false := by simp [k3]
    have d3 : (q.kind == 3) = true := by simp [k3]
    have d4 : (q.kind == 4) = false := by simp [k3]
    have d5 : (q.kind == 5) = false := by simp [k3]
    clear k3
    generalize hcol : q.col = col at *
    cases hI : inR col 0 ((cols.length : Int) - 1)
    · have H := Lib.hid (show queryOk cols q = false by rw [F.out, colFit, hcol, hI]; rfl)
      clear hcol
      go_wp2_with fail
      refine (q_spec_l1In col 0 ((cols.length : Int) - 1) _).mono ?_
      rintro e wz ⟨rfl, rfl⟩
      rw [hI]
      clear hI
      go_wp2_with fail
      go_ret
      exact ⟨ret_bool H.out.symm, hbE⟩
    · obtain ⟨j0, j1⟩ := inR_yes hI
      obtain ⟨j, rfl⟩ : ∃ j : Nat, col = (j : Int) := ⟨col.toNat, by omega⟩
      have hjl : j < cols.length := by omega
      obtain ⟨bc, offc, ct, rfl, -, hbc, hck, c0⟩ := hcW.at hjl
      have F := Lib.hid (show queryOk cols q = (decide (q.out.length = 0) && (ct == 1)) by rw [F.out, colFit, hcol, hI]; simp [hck])
      clear hck j0 j1 hcol
      cases ht : (ct == 1)
      · have H := Lib.hid (show queryOk cols q = false by rw [F.out, ht]; simp)
        go_wp2_with fail
        refine (q_spec_l1In j 0 ((cols.length : Int) - 1) _).mono ?_
        rintro e wz ⟨rfl, rfl⟩
        rw [hI]
        clear hI
        go_wp2_with fail
        go_ret
        exact ⟨ret_bool H.out.symm, hbE⟩
      · by_cases hz : q.out.length = 0
        · have hz0 : ((q.out.length : Int) == 0) = true := by rw [hz]; rfl
          have H := Lib.hid (show queryOk cols q = true by rw [F.out, ht, hz]; rfl)
          clear hz
          go_wp2_with fail
          refine (q_spec_l1In j 0 ((cols.length : Int) - 1) _).mono ?_
          rintro e wz ⟨rfl, rfl⟩
          rw [hI]
          clear hI
          go_wp2_with fail
          go_ret
          exact ⟨ret_bool H.out.symm, hbE⟩
        · have hz0 : ((q.out.length : Int) == 0) = false := beq_eq_false_iff_ne.2 (by omega)
          have H := Lib.hid (show queryOk cols q = false by rw [F.out, ht, decide_eq_false hz]; rfl)
          clear hz
          go_wp2_with fail
          refine (q_spec_l1In j 0 ((cols.length : Int) - 1) _).mono ?_
          rintro e wz ⟨rfl, rfl⟩
          rw [hI]
          clear hI
          go_wp2_with fail
          go_ret
          exact ⟨ret_bool H.out.symm, hbE⟩
  by_cases k4 : q.kind = 4
  · have F := Lib.hid (HP.out.trans (formQ_4 (cols := cols) k4))
    have d1 : (q.kind == 1) = false := by simp [k4]
    have d2 : (q.kind == 2) = false := by simp [k4]
    have d3 : (q.kind == 3) = false := by simp [k4]
    have d4 : (q.kind == 4) = true := by simp [k4]
    have d5 : (q.kind == 5) = false := by simp [k4]
    clear k4
    cases hI : inR q.col 0 ((cols.length : Int) - 1)
    · have H := Lib.hid (show queryOk cols q = false by rw [F.out, colFit, hI]; rfl)
      go_wp2_with fail
      refine (q_spec_l1In q.col 0 ((cols.length : Int) - 1) _).mono ?_
      rintro e wz ⟨rfl, rfl⟩
      rw [hI]
      clear hI
      go_wp2_with fail
      go_ret
      exact ⟨ret_bool H.out.symm, hbE⟩
    · by_cases hz : q.out.length = 0
      · have hz0 : ((q.out.length : Int) == 0) = true := by rw [hz]; rfl
        have H := Lib.hid (show queryOk cols q = true by rw [F.out, colFit, hI, hz]; rfl)
        clear hz
        go_wp2_with fail
        refine (q_spec_l1In q.col 0 ((cols.length : Int) - 1) _).mono ?_
        rintro e wz ⟨rfl, rfl⟩
        rw [hI]
        clear hI
        go_wp2_with fail
        go_ret
        exact ⟨ret_bool H.out.symm, hbE⟩
      · have hz0 : ((q.out.length : Int) == 0) = false := beq_eq_false_iff_ne.2 (by omega)
        have H := Lib.hid (show queryOk cols q = false by rw [F.out, colFit, hI, decide_eq_false hz]; rfl)
        clear hz
        go_wp2_with fail
        refine (q_spec_l1In q.col 0 ((cols.length : Int) - 1) _).mono ?_
        rintro e wz ⟨rfl, rfl⟩
        rw [hI]
        clear hI
        go_wp2_with fail
        go_ret
        exact ⟨ret_bool H.out.symm, hbE⟩
  by_cases k5 : q.kind = 5
  · have F := Lib.hid (HP.out.trans (formQ_5 (cols := cols) k5))
    have d1 : (q.kind == 1) = false := by simp [k5]
    have d2 : (q.kind == 2) = false := by simp [k5]
    have d3 : (q.kind == 3) = false := by simp [k5]
    have d4 : (q.kind == 4) = false := by simp [k5]
    have d5 : (q.kind == 5) = true := by simp [k5]
    clear k5
    cases hI : inR q.col 0 ((cols.length : Int) - 1)
    · have H := Lib.hid (show queryOk cols q = false by rw [F.out, colFit, hI]; rfl)
      go_wp2_with fail
      refine (q_spec_l1In q.col 0 ((cols.length : Int) - 1) _).mono ?_
      rintro e wz ⟨rfl, rfl⟩
      rw [hI]
      clear hI
      go_wp2_with fail
      go_ret
      exact ⟨ret_bool H.out.symm, hbE⟩
    · by_cases hz : q.out.length = 0
      · have hz0 : ((q.out.length : Int) == 0) = true := by rw [hz]; rfl
        have H := Lib.hid (show queryOk cols q = true by rw [F.out, colFit, hI, hz]; rfl)
        clear hz
        go_wp2_with fail
        refine (q_spec_l1In q.col 0 ((cols.length : Int) - 1) _).mono ?_
        rintro e wz ⟨rfl, rfl⟩
        rw [hI]
        clear hI
        go_wp2_with fail
        go_ret
        exact ⟨ret_bool H.out.symm, hbE⟩
      · have hz0 : ((q.out.length : Int) == 0) = false := beq_eq_false_iff_ne.2 (by omega)
        have H := Lib.hid (show queryOk cols q = false by rw [F.out, colFit, hI, decide_eq_false hz]; rfl)
        clear hz
        go_wp2_with fail
        refine (q_spec_l1In q.col 0 ((cols.length : Int) - 1) _).mono ?_
        rintro e wz ⟨rfl, rfl⟩
        rw [hI]
        clear hI
        go_wp2_with fail
        go_ret
        exact ⟨ret_bool H.out.symm, hbE⟩
  have H := Lib.hid (HP.out.trans (show formQ cols q = false by simp [formQ, k1, k2, k3, k4, k5]))
  have d1 : (q.kind == 1) = false := by simp [k1]
  have d2 : (q.kind == 2) = false := by simp [k2]
  have d3 : (q.kind == 3) = false := by simp [k3]
  have d4 : (q.kind == 4) = false := by simp [k4]
  have d5 : (q.kind == 5) = false := by simp [k5]
  clear k1 k2 k3 k4 k5
  go_wp2_with fail
  go_ret
  exact ⟨ret_bool H.out.symm, hbE⟩
set_option maxRecDepth 20000 in
set_option maxHeartbeats 8000000 in
theorem impl_QueryOk (cols : List Int) (cv : Value) (q : Q) (sv ov : Value) (w : World) {lo hi l1 h1 l2 h2 : Nat} (hc : RdI w l1 h1 cv cols) (hh1 : h1 ≤ w.heap.size) (hx : RdP w lo hi sv q.p.l) (hhi : hi ≤ w.heap.size) (ho : RdI w l2 h2 ov q.out) (hh2 : h2 ≤ w.heap.size) (hok : POk q.p) (hn : cntP q.p.l ≤ 1048576) :
    Calls Try.prog 11 #[cv, .agg #[.int .i64 q.kind, .int .i64 q.p.kind, .int .i64 q.p.col, .int .i64 q.p.op, .int .i64 q.p.v.ty, .int .i64 q.p.v.n, .string q.p.v.s, sv, .int .i64 q.col, ov]] w fun e w' => e = .returned (.bool (queryOk cols q)) ∧ Below w.heap.size w w' := by
  obtain ⟨Ao, co, rfl, hol, hol2⟩ := ho.form
  obtain ⟨Ac, cc, rfl, hcl, hcl2⟩ := hc.form
  have hb0 := up_a1 w (.cells #[.int .i64 q.kind, .int .i64 q.p.kind, .int .i64 q.p.col, .int .i64 q.p.op, .int .i64 q.p.v.ty, .int .i64 q.p.v.n, .string q.p.v.s, sv, .int .i64 q.col, .slice Ao q.out.length co] 31)
  have Hcb := Lib.hid (heap_alloc_new w (.cells #[.int .i64 q.kind, .int .i64 q.p.kind, .int .i64 q.p.col, .int .i64 q.p.op, .int .i64 q.p.v.ty, .int .i64 q.p.v.n, .string q.p.v.s, sv, .int .i64 q.col, .slice Ao q.out.length co] 31))
  have hs0 : (w.alloc (.cells #[.int .i64 q.kind, .int .i64 q.p.kind, .int .i64 q.p.col, .int .i64 q.p.op, .int .i64 q.p.v.ty, .int .i64 q.p.v.n, .string q.p.v.s, sv, .int .i64 q.col, .slice Ao q.out.length co] 31)).heap.size = w.heap.size + 1 := by simp
  have hxW := hx.below hb0 hhi
  have hcW := hc.below hb0 hh1
  have hoW := ho.below hb0 hh2
  have hwc : IntKind.i64.wrap ((cols.length : Int) - 1) = (cols.length : Int) - 1 := IntWalk.i64_in _ ⟨by omega, by omega⟩
  go_enter Try.func11, Try.ntmps11
  go_wp2_with fail
  generalize (w.alloc (.cells #[.int .i64 q.kind, .int .i64 q.p.kind, .int .i64 q.p.col, .int .i64 q.p.op, .int .i64 q.p.v.ty, .int .i64 q.p.v.n, .string q.p.v.s, sv, .int .i64 q.col, .slice Ao q.out.length co] 31)) = W1 at *
  refine (impl_PredOk cols _ q.p sv W1 hcW (by omega) hxW (by omega) hok hn).mono ?_
  rintro e w2 ⟨rfl, hb2⟩
  have Hq := (hb2.block _ (by omega)).trans Hcb.out
  have q0 := cell_of_row w2 _ 0 _ _ _ Hq
  have q8 := cell_of_row w2 _ 8 _ _ _ Hq
  have q9 := cell_of_row w2 _ 9 _ _ _ Hq
  simp only [List.getElem?_toArray, List.getElem?_cons_zero, List.getElem?_cons_succ] at q0 q8 q9
  have hcW := hcW.below hb2 (by omega)
  have hoW := hoW.below hb2 (by omega)
  have hbE := hb0.trans (hb2.mono (by omega))
  have hz2 := hb2.size
  clear Hq hxW hb2 hx hc ho
  cases hP : predOk cols q.p
  · have H := Lib.hid (show queryOk cols q = false by rw [queryOk, hP]; rfl)
    clear hP
    go_wp2_with fail
    go_ret
    exact ⟨ret_bool H.out.symm, hbE⟩
  have HP := Lib.hid (show queryOk cols q = formQ cols q by rw [queryOk, hP]; rfl)
  clear hP
  go_upto_region 3 with fail
  go_cut [5] from 13 to 24 (fun s wx => s = .bool (colFit cols q) ∧ w2 = wx)
  case first =>
    cases hI : inR q.col 0 ((cols.length : Int) - 1)
    · have HF := Lib.hid (show colFit cols q = false by rw [colFit, hI]; rfl)
      go_wp2_with fail
      refine (q_impl_within q.col 0 ((cols.length : Int) - 1) _).mono ?_
      rintro e wz ⟨rfl, rfl⟩
      rw [hI]
      clear hI
      go_wp2_with fail
      go_meet
      exact ⟨by rw [HF.out], rfl⟩
    · by_cases hz : q.out.length = 0
      · have hz0 : ((q.out.length : Int) == 0) = true := by rw [hz]; rfl
        have HF := Lib.hid (show colFit cols q = true by rw [colFit, hI, hz]; rfl)
        clear hz
        go_wp2_with fail
        refine (q_impl_within q.col 0 ((cols.length : Int) - 1) _).mono ?_
        rintro e wz ⟨rfl, rfl⟩
        rw [hI]
        clear hI
        go_wp2_with fail
        go_meet
        exact ⟨by rw [HF.out], rfl⟩
      · have hz0 : ((q.out.length : Int) == 0) = false := beq_eq_false_iff_ne.2 (by omega)
        have HF := Lib.hid (show colFit cols q = false by rw [colFit, hI, decide_eq_false hz]; rfl)
        clear hz
        go_wp2_with fail
        refine (q_impl_within q.col 0 ((cols.length : Int) - 1) _).mono ?_
        rintro e wz ⟨rfl, rfl⟩
        rw [hI]
        clear hI
        go_wp2_with fail
        go_meet
        exact ⟨by rw [HF.out], rfl⟩
  case rest =>
    obtain ⟨rfl, rfl⟩ := hcut
    by_cases k1 : q.kind = 1
    · have F := Lib.hid (HP.out.trans (formQ_1 (cols := cols) k1))
      have d1 : (q.kind == 1) = true := by simp [k1]
      have d2 : (q.kind == 2) = false := by simp [k1]
      have d3 : (q.kind == 3) = false := by simp [k1]
      have d4 : (q.kind == 4) = false := by simp [k1]
      have d5 : (q.kind == 5) = false := by simp [k1]
      clear k1
      go_wp2_with fail
      go_loopw [7, 32] (fun _ i wr => ∃ k : Nat, i = .int .i64 k ∧ k ≤ q.out.length ∧ (q.out.take k).all (fun k => inR k 0 ((cols.length : Int) - 1)) = true ∧ w2 = wr) (fun _ i _ => q.out.length - (intOf i).toNat)
      case atStart => exact ⟨0, rfl, by omega, by simp, rfl⟩
      case round =>
        obtain ⟨k, rfl, hk, hall, rfl⟩ := hrel
        have Hall := Lib.hid hall
        clear hall
        by_cases hkl : k < q.out.length
        · obtain ⟨b, off, y, rfl, -, hbl, hyk, e0⟩ := hoW.at hkl
          have HN := Lib.hid (fun h => all_no (f := fun k => inR k 0 ((cols.length : Int) - 1)) hyk h)
          have HY := Lib.hid (fun h => all_step (f := fun k => inR k 0 ((cols.length : Int) - 1)) hyk Hall.out h)
          clear hyk
          cases hh : inR y 0 ((cols.length : Int) - 1)
          · have H := Lib.hid (show queryOk cols q = false by rw [F.out, HN.out hh]; rfl)
            go_wp2_with fail
            refine (q_impl_within y 0 ((cols.length : Int) - 1) _).mono ?_
            rintro e wz ⟨rfl, rfl⟩
            rw [hh]
            clear hh
            go_wp2_with fail
            go_ret
            exact ⟨ret_bool H.out.symm, hbE⟩
          · have HY := Lib.hid (HY.out hh)
            go_wp2_with fail
            refine (q_impl_within y 0 ((cols.length : Int) - 1) _).mono ?_
            rintro e wz ⟨rfl, rfl⟩
            rw [hh]
            clear hh
            go_wp2_with fail
            go_roundw
            case rel => exact ⟨k + 1, by go_num, by omega, HY.out, by first | rfl | trivial⟩
            case measure => simp [intOf]; omega
        · obtain rfl : k = q.out.length := by omega
          have HA := Lib.hid (all_end Hall.out)
          have F := Lib.hid (show queryOk cols q = ((q.col == 0) && inR (q.out.length : Int) 1 3) by rw [F.out, HA.out]; rfl)
          cases hr : inR (q.out.length : Int) 1 3
          · have H := Lib.hid (show queryOk cols q = false by rw [F.out, hr]; simp)
            go_wp2_with fail
            refine (q_impl_within (q.out.length : Int) 1 3 _).mono ?_
            rintro e wz ⟨rfl, rfl⟩
            rw [hr]
            clear hr
            go_wp2_with fail
            go_ret
            exact ⟨ret_bool H.out.symm, hbE⟩
          · have H := Lib.hid (show queryOk cols q = (q.col == 0) by rw [F.out, hr]; simp)
            go_wp2_with fail
            refine (q_impl_within (q.out.length : Int) 1 3 _).mono ?_
            rintro e wz ⟨rfl, rfl⟩
            rw [hr]
            clear hr
            go_wp2_with fail
            go_ret
            exact ⟨ret_bool H.out.symm, hbE⟩
    by_cases k2 : q.kind = 2
    · have F := Lib.hid (HP.out.trans (formQ_2 (cols := cols) k2))
      have d1 : (q.kind == 1) = false := by simp [k2]
      have d2 : (q.kind == 2) = true := by simp [k2]
      have d3 : (q.kind == 3) = false := by simp [k2]
      have d4 : (q.kind == 4) = false := by simp [k2]
      have d5 : (q.kind == 5) = false := by simp [k2]
      clear k2
      cases hc0 : (q.col == 0)
      · have H := Lib.hid (show queryOk cols q = false by rw [F.out, hc0]; rfl)
        go_wp2_with fail
        go_ret
        exact ⟨ret_bool H.out.symm, hbE⟩
      · by_cases hz : q.out.length = 0
        · have hz0 : ((q.out.length : Int) == 0) = true := by rw [hz]; rfl
          have H := Lib.hid (show queryOk cols q = true by rw [F.out, hc0, hz]; rfl)
          clear hz
          go_wp2_with fail
          go_ret
          exact ⟨ret_bool H.out.symm, hbE⟩
        · have hz0 : ((q.out.length : Int) == 0) = false := beq_eq_false_iff_ne.2 (by omega)
          have H := Lib.hid (show queryOk cols q = false by rw [F.out, hc0, decide_eq_false hz]; rfl)
          clear hz
          go_wp2_with fail
          go_ret
          exact ⟨ret_bool H.out.symm, hbE⟩
    by_cases k3 : q.kind = 3
    · have F := Lib.hid (HP.out.trans (formQ_3 (cols := cols) k3))
      have d1 : (q.kind == 1) = false := by simp [k3]
      have d2 : (q.kind == 2) = false := by simp [k3]
      have d3 : (q.kind == 3) = true := by simp [k3]
      have d4 : (q.kind == 4) = false := by simp [k3]
      have d5 : (q.kind == 5) = false := by simp [k3]
      clear k3
      generalize hcol : q.col = col at *
      cases hf : colFit cols q
      · have H := Lib.hid (show queryOk cols q = false by rw [F.out, hf]; rfl)
        clear hcol
        go_wp2_with fail
        go_ret
        exact ⟨ret_bool H.out.symm, hbE⟩
      · have hI : inR col 0 ((cols.length : Int) - 1) = true := by
          have h := hf
          simp only [colFit, Bool.and_eq_true, hcol] at h
          exact h.1
        obtain ⟨j0, j1⟩ := inR_yes hI
        obtain ⟨j, rfl⟩ : ∃ j : Nat, col = (j : Int) := ⟨col.toNat, by omega⟩
        have hjl : j < cols.length := by omega
        obtain ⟨bc, offc, ct, rfl, -, hbc, hck, c0⟩ := hcW.at hjl
        have H := Lib.hid (show queryOk cols q = (ct == 1) by rw [F.out, hf]; simp [hck])
        clear hck j0 j1 hcol hI
        go_wp2_with fail
        go_ret
        exact ⟨ret_bool H.out.symm, hbE⟩
    by_cases k4 : q.kind = 4
    · have F := Lib.hid (HP.out.trans (formQ_4 (cols := cols) k4))
      have d1 : (q.kind == 1) = false := by simp [k4]
      have d2 : (q.kind == 2) = false := by simp [k4]
      have d3 : (q.kind == 3) = false := by simp [k4]
      have d4 : (q.kind == 4) = true := by simp [k4]
      have d5 : (q.kind == 5) = false := by simp [k4]
      clear k4
      have H := F
      go_wp2_with fail
      go_ret
      exact ⟨ret_bool H.out.symm, hbE⟩
    by_cases k5 : q.kind = 5
    · have F := Lib.hid (HP.out.trans (formQ_5 (cols := cols) k5))
      have d1 : (q.kind == 1) = false := by simp [k5]
      have d2 : (q.kind == 2) = false := by simp [k5]
      have d3 : (q.kind == 3) = false := by simp [k5]
      have d4 : (q.kind == 4) = false := by simp [k5]
      have d5 : (q.kind == 5) = true := by simp [k5]
      clear k5
      have H := F
      go_wp2_with fail
      go_ret
      exact ⟨ret_bool H.out.symm, hbE⟩
    have H := Lib.hid (HP.out.trans (show formQ cols q = false by simp [formQ, k1, k2, k3, k4, k5]))
    have d1 : (q.kind == 1) = false := by simp [k1]
    have d2 : (q.kind == 2) = false := by simp [k2]
    have d3 : (q.kind == 3) = false := by simp [k3]
    have d4 : (q.kind == 4) = false := by simp [k4]
    have d5 : (q.kind == 5) = false := by simp [k5]
    clear k1 k2 k3 k4 k5
    go_wp2_with fail
    go_ret
    exact ⟨ret_bool H.out.symm, hbE⟩
end Go.Proofs.Ytidmlfjolhnnfaa
