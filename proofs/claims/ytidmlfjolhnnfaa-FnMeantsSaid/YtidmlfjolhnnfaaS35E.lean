/- Valid predicates (the program): the kind 2. -/
import Derived.Test.YtidmlfjolhnnfaaS35A
namespace Go.Proofs.Ytidmlfjolhnnfaa
open Go.Sort Go.ChangeShapes Go.WideShapes Go.ChangeAt Go.RowKit Go.Lb
set_option maxRecDepth 20000 in
set_option maxHeartbeats 8000000 in
theorem cnt_k2 (cols : List Int) (cv : Value) (k : Nat) (IHc : ∀ p, CntC cols cv k p) (p : P) (k2 : p.kind = 2) : CntC cols cv (k + 1) p := by
  have Hk2 := Lib.hid k2
  clear k2
  intro d hd hk4 hok hcn
  have IH := Lib.hid IHc
  have Hd := Lib.hid hd
  intro sv w lo hi l1 h1 hx hhi hc hh1
  obtain ⟨A, c, rfl, hl, hl2⟩ := hx.form
  obtain ⟨Ac, cc, rfl, hcl, hcl2⟩ := hc.form
  have hb0 := up_a1 w (.cells #[.int .i64 p.kind, .int .i64 p.col, .int .i64 p.op, .int .i64 p.v.ty, .int .i64 p.v.n, .string p.v.s, .slice A p.l.length c] 28)
  have Hcb := Lib.hid (heap_alloc_new w (.cells #[.int .i64 p.kind, .int .i64 p.col, .int .i64 p.op, .int .i64 p.v.ty, .int .i64 p.v.n, .string p.v.s, .slice A p.l.length c] 28))
  have hs0 : (w.alloc (.cells #[.int .i64 p.kind, .int .i64 p.col, .int .i64 p.op, .int .i64 p.v.ty, .int .i64 p.v.n, .string p.v.s, .slice A p.l.length c] 28)).heap.size = w.heap.size + 1 := by simp
  have hlt : decide (d < 1) = false := decide_eq_false (by omega)
  have hwd : IntKind.i64.wrap (d - 1) = d - 1 := IntWalk.i64_in _ ⟨by omega, by omega⟩
  have hwc : IntKind.i64.wrap ((cols.length : Int) - 1) = (cols.length : Int) - 1 := IntWalk.i64_in _ ⟨by omega, by omega⟩
  clear hd
  have HOk := Lib.hid hok.2
  have he := eql_zero p.v
  have hgd := guard_V
  by_cases hl4 : 4 < p.l.length
  · have hdl : decide (4 < (p.l.length : Int)) = true := decide_eq_true (by omega)
    have H := Lib.hid (cntV_no (cols := cols) (k := k + 1) (p := p) (by
      cases h : deepOk cols (k + 1) p
      · rfl
      · simp only [deepOk, Bool.and_eq_true] at h
        have := formOk_len h.1
        omega))
    clear hl4
    go_enter Try.func43, Try.ntmps43
    go_wp2_with fail
    go_ret
    exact ⟨ret_int H.out.symm, hb0⟩
  have hdl : decide (4 < (p.l.length : Int)) = false := decide_eq_false (by omega)
  go_enter Try.func43, Try.ntmps43
  go_upto_region 3 with fail
  generalize (w.alloc (.cells #[.int .i64 p.kind, .int .i64 p.col, .int .i64 p.op, .int .i64 p.v.ty, .int .i64 p.v.n, .string p.v.s, .slice A p.l.length c] 28)) = W1 at *
  have q0 := cell_of_row W1 _ 0 _ _ _ Hcb.out
  have q1 := cell_of_row W1 _ 1 _ _ _ Hcb.out
  have q2 := cell_of_row W1 _ 2 _ _ _ Hcb.out
  have q3 := cell_of_row W1 _ 3 _ _ _ Hcb.out
  have q4 := cell_of_row W1 _ 4 _ _ _ Hcb.out
  have q5 := cell_of_row W1 _ 5 _ _ _ Hcb.out
  have q6 := cell_of_row W1 _ 6 _ _ _ Hcb.out
  simp only [List.getElem?_toArray, List.getElem?_cons_zero, List.getElem?_cons_succ] at q0 q1 q2 q3 q4 q5 q6
  go_cut [7] from 21 to 34 (fun s wx => s = .bool (bareP p) ∧ W1 = wx)
  case first =>
    rcases bare_cases p with ⟨hB, b1⟩ | ⟨hB, b1, b2⟩ | ⟨hB, b1, b2, b3⟩ | ⟨hB, b1, b2, b3⟩
    all_goals
      have HB := Lib.hid hB
      try rw [b3] at he
      clear hB
      try clear b3
      go_wp2_with fail
      go_meet
      exact ⟨by rw [HB.out], rfl⟩
  case rest =>
    obtain ⟨rfl, rfl⟩ := hcut
    obtain ⟨b, hB⟩ : ∃ b, bareP p = b := ⟨_, rfl⟩
    have HB := Lib.hid hB
    rw [hB]
    clear hB he
    have k2 := Hk2.out
    have F := Lib.hid (formOk_2 (cols := cols) k2)
    have d1 : (p.kind == 1) = false := by simp [k2]
    have d2 : (p.kind == 2) = true := by simp [k2]
    have d3 : (p.kind == 3) = false := by simp [k2]
    have d4 : (p.kind == 4) = false := by simp [k2]
    have d5 : (p.kind == 5) = false := by simp [k2]
    clear k2 HB
    generalize hcol : p.col = col at *
    cases hI : inR col 0 ((cols.length : Int) - 1)
    · have cI := Lib.hid (fun W => (c_impl_within col 0 ((cols.length : Int) - 1) W).mono fun e w' h => (⟨hI ▸ h.1, h.2⟩ : e = .returned (.bool false) ∧ _))
      have F2 := Lib.hid (show formOk cols p = false by rw [F.out, cmpOk_out hI])
      have H := Lib.hid (cntV_no (cols := cols) (k := k + 1) (p := p) (by rw [deepOk, F2.out]; rfl))
      go_wp2_with fail
      have q_0 := cell_regrown (w := W1) q1
      refine wp_region_quiet_below (by kernel_rfl) (by kernel_rfl) ?_
      repeat (go_big_quiet_step (first | (go_at_call 32; with_reducible exact Calls.regrown_of (cI.out _))))
      refine wpQuiet_nil ?_
      intro wq hw'
      obtain ⟨⟨dq, osq⟩, hw''⟩ := hw'
      have hbq := below_regrown W1 dq osq
      rw [← hw''] at hbq
      clear hw''
      clear q_0
      go_wp2_with fail
      go_ret
      exact ⟨ret_int H.out.symm, hb0.trans (hbq.mono (by omega))⟩
    · obtain ⟨j0, j1⟩ := inR_yes hI
      have cI := Lib.hid (fun W => (c_impl_within col 0 ((cols.length : Int) - 1) W).mono fun e w' h => (⟨hI ▸ h.1, h.2⟩ : e = .returned (.bool true) ∧ _))
      obtain ⟨j, rfl⟩ : ∃ j : Nat, col = (j : Int) := ⟨col.toNat, by omega⟩
      have hjl : j < cols.length := by omega
      obtain ⟨bc, offc, ct, rfl, -, hbc, hck, c0⟩ := (hc.below hb0 hh1).at hjl
      have F := Lib.hid (F.out.trans (cmpOk_at hck))
      clear hck j0 j1
      cases hO : inR p.op 1 6
      · have cO := Lib.hid (fun W => (c_impl_within p.op 1 6 W).mono fun e w' h => (⟨hO ▸ h.1, h.2⟩ : e = .returned (.bool false) ∧ _))
        have F2 := Lib.hid (show formOk cols p = false by rw [F.out, hO]; simp)
        have H := Lib.hid (cntV_no (cols := cols) (k := k + 1) (p := p) (by rw [deepOk, F2.out]; rfl))
        go_wp2_with fail
        have q_0 := cell_regrown (w := W1) q1
        have q_1 := cell_regrown (w := W1) q2
        have q_2 := cell_regrown (w := W1) q3
        have q_3 := cell_regrown (w := W1) q4
        have q_4 := cell_regrown (w := W1) q5
        have q_5 := cell_regrown (w := W1) c0
        refine wp_region_quiet_below (by kernel_rfl) (by kernel_rfl) ?_
        repeat (go_big_quiet_step (first | (go_at_call 32; with_reducible exact Calls.regrown_of (cI.out _)) | (go_at_call 32; with_reducible exact Calls.regrown_of (cO.out _))))
        refine wpQuiet_nil ?_
        intro wq hw'
        obtain ⟨⟨dq, osq⟩, hw''⟩ := hw'
        have hbq := below_regrown W1 dq osq
        rw [← hw''] at hbq
        clear hw''
        clear q_0 q_1 q_2 q_3 q_4 q_5
        go_wp2_with fail
        go_ret
        exact ⟨ret_int H.out.symm, hb0.trans (hbq.mono (by omega))⟩
      have cO := Lib.hid (fun W => (c_impl_within p.op 1 6 W).mono fun e w' h => (⟨hO ▸ h.1, h.2⟩ : e = .returned (.bool true) ∧ _))
      cases hV : valOk p.v
      · have cV := Lib.hid (fun W => (impl_ValOk p.v W hok.1).mono fun e w' h => (⟨hV ▸ h.1, h.2⟩ : e = .returned (.bool false) ∧ _))
        have F2 := Lib.hid (show formOk cols p = false by rw [F.out, hV]; simp)
        have H := Lib.hid (cntV_no (cols := cols) (k := k + 1) (p := p) (by rw [deepOk, F2.out]; rfl))
        go_wp2_with fail
        have q_0 := cell_regrown (w := W1) q1
        have q_1 := cell_regrown (w := W1) q2
        have q_2 := cell_regrown (w := W1) q3
        have q_3 := cell_regrown (w := W1) q4
        have q_4 := cell_regrown (w := W1) q5
        have q_5 := cell_regrown (w := W1) c0
        refine wp_region_quiet_below (by kernel_rfl) (by kernel_rfl) ?_
        repeat (go_big_quiet_step (first | (go_at_call 32; with_reducible exact Calls.regrown_of (cI.out _)) | (go_at_call 32; with_reducible exact Calls.regrown_of (cO.out _)) | (go_at_call 65; with_reducible exact Calls.regrown_of (cV.out _))))
        refine wpQuiet_nil ?_
        intro wq hw'
        obtain ⟨⟨dq, osq⟩, hw''⟩ := hw'
        have hbq := below_regrown W1 dq osq
        rw [← hw''] at hbq
        clear hw''
        clear q_0 q_1 q_2 q_3 q_4 q_5
        go_wp2_with fail
        go_ret
        exact ⟨ret_int H.out.symm, hb0.trans (hbq.mono (by omega))⟩
      have cV := Lib.hid (fun W => (impl_ValOk p.v W hok.1).mono fun e w' h => (⟨hV ▸ h.1, h.2⟩ : e = .returned (.bool true) ∧ _))
      cases hT : (p.v.ty == ct)
      · skip
        have F2 := Lib.hid (show formOk cols p = false by rw [F.out, hT]; simp)
        have H := Lib.hid (cntV_no (cols := cols) (k := k + 1) (p := p) (by rw [deepOk, F2.out]; rfl))
        go_wp2_with fail
        have q_0 := cell_regrown (w := W1) q1
        have q_1 := cell_regrown (w := W1) q2
        have q_2 := cell_regrown (w := W1) q3
        have q_3 := cell_regrown (w := W1) q4
        have q_4 := cell_regrown (w := W1) q5
        have q_5 := cell_regrown (w := W1) c0
        refine wp_region_quiet_below (by kernel_rfl) (by kernel_rfl) ?_
        repeat (go_big_quiet_step (first | (go_at_call 32; with_reducible exact Calls.regrown_of (cI.out _)) | (go_at_call 32; with_reducible exact Calls.regrown_of (cO.out _)) | (go_at_call 65; with_reducible exact Calls.regrown_of (cV.out _))))
        refine wpQuiet_nil ?_
        intro wq hw'
        obtain ⟨⟨dq, osq⟩, hw''⟩ := hw'
        have hbq := below_regrown W1 dq osq
        rw [← hw''] at hbq
        clear hw''
        clear q_0 q_1 q_2 q_3 q_4 q_5
        go_wp2_with fail
        go_ret
        exact ⟨ret_int H.out.symm, hb0.trans (hbq.mono (by omega))⟩
      by_cases hz : p.l.length = 0
      · have hz0 : ((p.l.length : Int) == 0) = true := by rw [hz]; rfl
        have F := Lib.hid (show formOk cols p = true by rw [F.out, hV, hT, hO, hz]; rfl)
        have Hz := Lib.hid hz
        clear hz
        go_wp2_with fail
        have q_0 := cell_regrown (w := W1) q1
        have q_1 := cell_regrown (w := W1) q2
        have q_2 := cell_regrown (w := W1) q3
        have q_3 := cell_regrown (w := W1) q4
        have q_4 := cell_regrown (w := W1) q5
        have q_5 := cell_regrown (w := W1) q6
        have q_6 := cell_regrown (w := W1) c0
        refine wp_region_quiet_below (by kernel_rfl) (by kernel_rfl) ?_
        repeat (go_big_quiet_step (first | (go_at_call 32; with_reducible exact Calls.regrown_of (cI.out _)) | (go_at_call 32; with_reducible exact Calls.regrown_of (cO.out _)) | (go_at_call 65; with_reducible exact Calls.regrown_of (cV.out _))))
        refine wpQuiet_nil ?_
        intro wq hw'
        obtain ⟨⟨dq, osq⟩, hw''⟩ := hw'
        have hbq := below_regrown W1 dq osq
        rw [← hw''] at hbq
        clear hw''
        clear q_0 q_1 q_2 q_3 q_4 q_5 q_6
        rename World => w2
        clear hI hO hV hT c0 cI cO cV
        have hbc := hbq
        clear q0 q1 q2 q3 q4 q5 q6
        have q6 := cell_of_row w2 _ 6 _ _ _ ((hbc.block _ (by omega)).trans Hcb.out)
        simp only [List.getElem?_toArray, List.getElem?_cons_zero, List.getElem?_cons_succ] at q6
        have hbW := hb0.trans (hbc.mono (by omega))
        go_wp2_with fail
        go_loopw [9, 105] (fun s i wr => ∃ q : Nat, i = .int .i64 q ∧ q ≤ p.l.length ∧ s = .int .i64 (1 + (cntP (p.l.take q) : Nat)) ∧ (p.l.take q).all (deepOk cols k) = true ∧ Below w.heap.size w wr) (fun _ i _ => p.l.length - (intOf i).toNat)
        case atStart => exact ⟨0, rfl, by omega, by simp [cntP_nil], by simp, hbW⟩
        case round =>
          obtain ⟨q, rfl, hq, rfl, hall, hb⟩ := hrel
          have Hall := Lib.hid hall
          clear hall
          have hbs := hb.size
          by_cases hql : q < p.l.length
          · exact absurd hql (by have := Hz.out; omega)
          · obtain rfl : q = p.l.length := by omega
            have H := Lib.hid (cntV_yes (cols := cols) (k := k + 1) (p := p) (by rw [deep_end Hall.out, F.out]))
            rw [List.take_length]
            go_wp2_with fail
            go_ret
            exact ⟨ret_int H.out.symm, hb⟩
      · have hz0 : ((p.l.length : Int) == 0) = false := beq_eq_false_iff_ne.2 (by omega)
        have F2 := Lib.hid (show formOk cols p = false by rw [F.out, decide_eq_false hz]; simp)
        have H := Lib.hid (cntV_no (cols := cols) (k := k + 1) (p := p) (by rw [deepOk, F2.out]; rfl))
        clear hz
        go_wp2_with fail
        have q_0 := cell_regrown (w := W1) q1
        have q_1 := cell_regrown (w := W1) q2
        have q_2 := cell_regrown (w := W1) q3
        have q_3 := cell_regrown (w := W1) q4
        have q_4 := cell_regrown (w := W1) q5
        have q_5 := cell_regrown (w := W1) q6
        have q_6 := cell_regrown (w := W1) c0
        refine wp_region_quiet_below (by kernel_rfl) (by kernel_rfl) ?_
        repeat (go_big_quiet_step (first | (go_at_call 32; with_reducible exact Calls.regrown_of (cI.out _)) | (go_at_call 32; with_reducible exact Calls.regrown_of (cO.out _)) | (go_at_call 65; with_reducible exact Calls.regrown_of (cV.out _))))
        refine wpQuiet_nil ?_
        intro wq hw'
        obtain ⟨⟨dq, osq⟩, hw''⟩ := hw'
        have hbq := below_regrown W1 dq osq
        rw [← hw''] at hbq
        clear hw''
        clear q_0 q_1 q_2 q_3 q_4 q_5 q_6
        go_wp2_with fail
        go_ret
        exact ⟨ret_int H.out.symm, hb0.trans (hbq.mono (by omega))⟩
end Go.Proofs.Ytidmlfjolhnnfaa
