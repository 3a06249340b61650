/- The laws' helpers for lists of rows (and slots): equality, copies: contracts. -/
import Derived.Test.YtgjjkodlmhmjgaaLR2
namespace Go.Proofs.Ytgjjkodlmhmjgaa
open Go.Sort Go.ChangeShapes Go.WideShapes Go.ChangeAt Go.RowKit Go.Lb

set_option maxHeartbeats 1000000 in
theorem eqRowS_c (xs : List R) (x : Value) (ys : List R) (y : Value) (w : World) {l1 h1 l2 h2 : Nat} (hx : RdR w l1 h1 x xs) (hh1 : h1 ≤ w.heap.size) (hy : RdR w l2 h2 y ys) (hh2 : h2 ≤ w.heap.size) :
    Calls Try.prog 21 #[x, y] w fun e w' => e = .returned (.bool (eqd xs ys)) ∧ Below w.heap.size w w' := by
  obtain ⟨A, c, rfl, hl, hl2⟩ := hx.form
  obtain ⟨A', c', rfl, hl', hl2'⟩ := hy.form
  by_cases hlen : xs.length = ys.length
  · have Hlen := Lib.hid hlen
    have hlb : ((xs.length : Int) != (ys.length : Int)) = false := by simp [hlen]
    rw [← hlen] at hl'
    clear hlen
    go_enter Try.func21, Try.ntmps21
    go_wp2_with fail
    go_loopw [5] (fun i wr => ∃ (k : Nat), i = .int .i64 k ∧ k ≤ xs.length ∧ xs.take k = ys.take k ∧ Below w.heap.size w wr) (fun i _ => xs.length - (intOf i).toNat)
    case atStart => exact ⟨0, by simp, by omega, by simp, Below.refl _ _⟩
    case round =>
      obtain ⟨k, rfl, hk, htk, hb⟩ := hrel
      have Htk := Lib.hid htk
      clear htk
      by_cases hkl : k < xs.length
      · obtain ⟨b, off, u, sv, rfl, -, hbl, huk, e0, e1, hr⟩ := (hx.below hb hh1).at hkl
        obtain ⟨b', off', u', sv', rfl, -, hbl', huk', e0', e1', hr'⟩ := (hy.below hb hh2).at (Hlen.out ▸ hkl)
        have Hs := Lib.hid (eq_of_drop Hlen.out Htk.out huk huk')
        have hkl' : k < ys.length := Hlen.out ▸ hkl
        clear huk huk'
        have hbs := hb.size
        have hC := Lib.hid (fun W (h : Below wr.heap.size wr W) => eqRow_c u sv u' sv' W (hr.below h (by omega)) (Nat.le_trans (by omega) h.size) (hr'.below h (by omega)) (Nat.le_trans (by omega) h.size))
        clear hr hr'
        by_cases hu : u = u'
        · have hd : eqd u u' = true := eqd_of hu
          rw [hd] at hC
          have Hs1 := Lib.hid (Hs.out.1 hu)
          clear hu Hs hd
          go_wp2_with fail
          have q_0 := cell_regrown (w := wr) e0
          have q_1 := cell_regrown (w := wr) e1
          have q_2 := cell_regrown (w := wr) e0'
          have q_3 := cell_regrown (w := wr) e1'
          refine wp_region_quiet_below (by kernel_rfl) (by kernel_rfl) ?_
          repeat (go_big_quiet_step (first | (go_at_call 79; exact Calls.regrown_of (hC.out _ (below_regrown _ _ _)))))
          refine wpQuiet_nil ?_
          intro wq hw'
          obtain ⟨⟨dq, osq⟩, hw''⟩ := hw'
          have hbq := below_regrown wr dq osq
          rw [← hw''] at hbq
          clear hw''
          clear q_0 q_1 q_2 q_3
          go_wp2_with fail
          go_roundw
          case rel => exact ⟨k + 1, by go_num, by omega, Hs1.out, hb.trans (hbq.mono hb.size)⟩
          case measure => simp [intOf]; omega
        · have hd : eqd u u' = false := eqd_no hu
          rw [hd] at hC
          have H := Lib.hid (eqd_no (Hs.out.2 hu))
          clear hu Hs hd
          go_wp2_with fail
          have q_0 := cell_regrown (w := wr) e0
          have q_1 := cell_regrown (w := wr) e1
          have q_2 := cell_regrown (w := wr) e0'
          have q_3 := cell_regrown (w := wr) e1'
          refine wp_region_quiet_below (by kernel_rfl) (by kernel_rfl) ?_
          repeat (go_big_quiet_step (first | (go_at_call 79; exact Calls.regrown_of (hC.out _ (below_regrown _ _ _)))))
          refine wpQuiet_nil ?_
          intro wq hw'
          obtain ⟨⟨dq, osq⟩, hw''⟩ := hw'
          have hbq := below_regrown wr dq osq
          rw [← hw''] at hbq
          clear hw''
          clear q_0 q_1 q_2 q_3
          go_wp2_with fail
          go_ret
          exact ⟨ret_bool H.out.symm, hb.trans (hbq.mono hb.size)⟩
      · have H := Lib.hid (show eqd xs ys = true by
          have h := Htk.out
          rw [List.take_of_length_le (by omega), List.take_of_length_le (by have := Hlen.out; omega)] at h
          exact eqd_of h)
        go_wp2_with fail
        go_ret
        exact ⟨ret_bool H.out.symm, hb⟩
  · have hlb : ((xs.length : Int) != (ys.length : Int)) = true := by simp; omega
    have H := Lib.hid (eqd_no fun h : xs = ys => hlen (by rw [h]))
    clear hlen
    go_enter Try.func21, Try.ntmps21
    go_wp2_with fail
    go_ret
    exact ⟨ret_bool H.out.symm, Below.refl _ _⟩
set_option maxHeartbeats 1000000 in
theorem eqSlotS_c (xs : List R) (x : Value) (ys : List R) (y : Value) (w : World) {l1 h1 l2 h2 : Nat} (hx : RdR w l1 h1 x xs) (hh1 : h1 ≤ w.heap.size) (hy : RdR w l2 h2 y ys) (hh2 : h2 ≤ w.heap.size) :
    Calls Try.prog 99 #[x, y] w fun e w' => e = .returned (.bool (eqd xs ys)) ∧ Below w.heap.size w w' := by
  obtain ⟨A, c, rfl, hl, hl2⟩ := hx.form
  obtain ⟨A', c', rfl, hl', hl2'⟩ := hy.form
  by_cases hlen : xs.length = ys.length
  · have Hlen := Lib.hid hlen
    have hlb : ((xs.length : Int) != (ys.length : Int)) = false := by simp [hlen]
    rw [← hlen] at hl'
    clear hlen
    go_enter Try.func99, Try.ntmps99
    go_wp2_with fail
    go_loopw [5] (fun i wr => ∃ (k : Nat), i = .int .i64 k ∧ k ≤ xs.length ∧ xs.take k = ys.take k ∧ Below w.heap.size w wr) (fun i _ => xs.length - (intOf i).toNat)
    case atStart => exact ⟨0, by simp, by omega, by simp, Below.refl _ _⟩
    case round =>
      obtain ⟨k, rfl, hk, htk, hb⟩ := hrel
      have Htk := Lib.hid htk
      clear htk
      by_cases hkl : k < xs.length
      · obtain ⟨b, off, u, sv, rfl, -, hbl, huk, e0, e1, hr⟩ := (hx.below hb hh1).at hkl
        obtain ⟨b', off', u', sv', rfl, -, hbl', huk', e0', e1', hr'⟩ := (hy.below hb hh2).at (Hlen.out ▸ hkl)
        have Hs := Lib.hid (eq_of_drop Hlen.out Htk.out huk huk')
        have hkl' : k < ys.length := Hlen.out ▸ hkl
        clear huk huk'
        have hbs := hb.size
        have hC := Lib.hid (fun W (h : Below wr.heap.size wr W) => eqSlot_c u sv u' sv' W (hr.below h (by omega)) (Nat.le_trans (by omega) h.size) (hr'.below h (by omega)) (Nat.le_trans (by omega) h.size))
        clear hr hr'
        by_cases hu : u = u'
        · have hd : eqd u u' = true := eqd_of hu
          rw [hd] at hC
          have Hs1 := Lib.hid (Hs.out.1 hu)
          clear hu Hs hd
          go_wp2_with fail
          have q_0 := cell_regrown (w := wr) e0
          have q_1 := cell_regrown (w := wr) e1
          have q_2 := cell_regrown (w := wr) e0'
          have q_3 := cell_regrown (w := wr) e1'
          refine wp_region_quiet_below (by kernel_rfl) (by kernel_rfl) ?_
          repeat (go_big_quiet_step (first | (go_at_call 134; exact Calls.regrown_of (hC.out _ (below_regrown _ _ _)))))
          refine wpQuiet_nil ?_
          intro wq hw'
          obtain ⟨⟨dq, osq⟩, hw''⟩ := hw'
          have hbq := below_regrown wr dq osq
          rw [← hw''] at hbq
          clear hw''
          clear q_0 q_1 q_2 q_3
          go_wp2_with fail
          go_roundw
          case rel => exact ⟨k + 1, by go_num, by omega, Hs1.out, hb.trans (hbq.mono hb.size)⟩
          case measure => simp [intOf]; omega
        · have hd : eqd u u' = false := eqd_no hu
          rw [hd] at hC
          have H := Lib.hid (eqd_no (Hs.out.2 hu))
          clear hu Hs hd
          go_wp2_with fail
          have q_0 := cell_regrown (w := wr) e0
          have q_1 := cell_regrown (w := wr) e1
          have q_2 := cell_regrown (w := wr) e0'
          have q_3 := cell_regrown (w := wr) e1'
          refine wp_region_quiet_below (by kernel_rfl) (by kernel_rfl) ?_
          repeat (go_big_quiet_step (first | (go_at_call 134; exact Calls.regrown_of (hC.out _ (below_regrown _ _ _)))))
          refine wpQuiet_nil ?_
          intro wq hw'
          obtain ⟨⟨dq, osq⟩, hw''⟩ := hw'
          have hbq := below_regrown wr dq osq
          rw [← hw''] at hbq
          clear hw''
          clear q_0 q_1 q_2 q_3
          go_wp2_with fail
          go_ret
          exact ⟨ret_bool H.out.symm, hb.trans (hbq.mono hb.size)⟩
      · have H := Lib.hid (show eqd xs ys = true by
          have h := Htk.out
          rw [List.take_of_length_le (by omega), List.take_of_length_le (by have := Hlen.out; omega)] at h
          exact eqd_of h)
        go_wp2_with fail
        go_ret
        exact ⟨ret_bool H.out.symm, hb⟩
  · have hlb : ((xs.length : Int) != (ys.length : Int)) = true := by simp; omega
    have H := Lib.hid (eqd_no fun h : xs = ys => hlen (by rw [h]))
    clear hlen
    go_enter Try.func99, Try.ntmps99
    go_wp2_with fail
    go_ret
    exact ⟨ret_bool H.out.symm, Below.refl _ _⟩

end Go.Proofs.Ytgjjkodlmhmjgaa
