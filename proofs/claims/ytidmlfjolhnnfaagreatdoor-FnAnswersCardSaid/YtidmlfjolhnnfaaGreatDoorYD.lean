/- Equal lists of values, equal rows, equal lists of rows: contracts. -/
import Derived.Test.YtidmlfjolhnnfaaGreatDoorXL
namespace Go.Proofs.YtidmlfjolhnnfaaGreatDoor
open Go.Sort Go.ChangeShapes Go.WideShapes Go.ChangeAt Go.RowKit Go.Lb

set_option maxHeartbeats 1000000 in
theorem slices_EqualV (xs : List V) (x : Value) (ys : List V) (y : Value) (w : World) {l1 h1 l2 h2 : Nat} (hx : RdV w l1 h1 x xs) (hh1 : h1 ≤ w.heap.size) (hy : RdV w l2 h2 y ys) (hh2 : h2 ≤ w.heap.size) :
    Calls Tryz.prog 85 #[x, y] w fun e w' => e = .returned (.bool (eqd xs ys)) ∧ Below w.heap.size w w' := by
  obtain ⟨A, c, rfl, hl, hl2⟩ := hx.form
  obtain ⟨A', c', rfl, hl', hl2'⟩ := hy.form
  have hgd := guard_V
  by_cases hlen : xs.length = ys.length
  · have Hlen := Lib.hid hlen
    have hlb : ((xs.length : Int) != (ys.length : Int)) = false := by simp [hlen]
    rw [← hlen] at hl'
    clear hlen
    go_enter Tryz.func85, Tryz.ntmps85
    go_wp2_with fail
    go_loopw [13] (fun i wr => ∃ (k : Nat), i = .int .i64 k ∧ k ≤ xs.length ∧ xs.take k = ys.take k ∧ Below w.heap.size w wr) (fun i _ => xs.length - (intOf i).toNat)
    case atStart => exact ⟨0, by simp, by omega, by simp, Below.refl _ _⟩
    case round =>
      obtain ⟨k, rfl, hk, htk, hb⟩ := hrel
      have Htk := Lib.hid htk
      clear htk
      by_cases hkl : k < xs.length
      · obtain ⟨b, off, u, rfl, -, hbl, huk, e0, e1, e2⟩ := (hx.below hb hh1).at hkl
        obtain ⟨b', off', u', rfl, -, hbl', huk', e0', e1', e2'⟩ := (hy.below hb hh2).at (Hlen.out ▸ hkl)
        have Hs := Lib.hid (eq_of_drop Hlen.out Htk.out huk huk')
        have hkl' : k < ys.length := Hlen.out ▸ hkl
        have hne := neq_V u u'
        clear huk huk'
        by_cases hu : u = u'
        · have hd : eqd u u' = true := eqd_of hu
          rw [hd] at hne
          have Hs1 := Lib.hid (Hs.out.1 hu)
          clear hu Hs hd
          go_wp2_with fail
          go_region
          go_wp2_with fail
          go_roundw
          case rel => exact ⟨k + 1, by go_num, by omega, Hs1.out, hb.drew⟩
          case measure => simp [intOf]; omega
        · have hd : eqd u u' = false := eqd_no hu
          rw [hd] at hne
          have H := Lib.hid (eqd_no (Hs.out.2 hu))
          clear hu Hs hd
          go_wp2_with fail
          go_region
          go_wp2_with fail
          go_ret
          exact ⟨ret_bool H.out.symm, hb.drew⟩
      · have H := Lib.hid (show eqd xs ys = true by
          have h := Htk.out
          rw [List.take_of_length_le (by omega), List.take_of_length_le (by have := Hlen.out; omega)] at h
          exact eqd_of h)
        go_wp2_with fail
        go_ret
        exact ⟨ret_bool H.out.symm, hb⟩
  · have hlb : ((xs.length : Int) != (ys.length : Int)) = true := by simp; omega
    have H := Lib.hid (eqd_no fun h : xs = ys => hlen (by rw [h]))
    clear hlen
    go_enter Tryz.func85, Tryz.ntmps85
    go_wp2_with fail
    go_ret
    exact ⟨ret_bool H.out.symm, Below.refl _ _⟩
theorem impl_SameVals (xs : List V) (x : Value) (ys : List V) (y : Value) (w : World) {l1 h1 l2 h2 : Nat} (hx : RdV w l1 h1 x xs) (hh1 : h1 ≤ w.heap.size) (hy : RdV w l2 h2 y ys) (hh2 : h2 ≤ w.heap.size) :
    Calls Tryz.prog 73 #[x, y] w fun e w' => e = .returned (.bool (eqd xs ys)) ∧ Below w.heap.size w w' := by
  go_enter Tryz.func73, Tryz.ntmps73
  go_wp2_with fail
  refine (slices_EqualV xs x ys y _ hx hh1 hy hh2).mono ?_
  rintro e w1 ⟨rfl, hb1⟩
  go_wp2_with fail
  go_ret
  exact ⟨rfl, hb1⟩
set_option maxHeartbeats 400000 in
theorem impl_SameRow (x : R) (sv : Value) (y : R) (sv' : Value) (w : World) {l1 h1 l2 h2 : Nat} (hx : RdV w l1 h1 sv x.l) (hh1 : h1 ≤ w.heap.size) (hy : RdV w l2 h2 sv' y.l) (hh2 : h2 ≤ w.heap.size) :
    Calls Tryz.prog 56 #[.agg #[.int .i64 x.id, sv], .agg #[.int .i64 y.id, sv']] w fun e w' => e = .returned (.bool (eqd x y)) ∧ Below w.heap.size w w' := by
  have hE : eqd x y = (x.id == y.id && eqd x.l y.l) := by
    obtain ⟨a, b⟩ := x
    obtain ⟨c, d⟩ := y
    unfold eqd
    rw [Bool.eq_iff_iff]
    simp
  have HE := Lib.hid hE
  clear hE
  have up := up_a2 w (.cells #[.int .i64 x.id, sv] 51) (.cells #[.int .i64 y.id, sv'] 51)
  have hc := Lib.hid (impl_SameVals x.l sv y.l sv' _ (hx.below up hh1) (by simp only [World.size_alloc]; omega) (hy.below up hh2) (by simp only [World.size_alloc]; omega))
  by_cases hi : x.id = y.id
  · have hd : (x.id == y.id) = true := by simp [hi]
    have HE := Lib.hid (show eqd x y = eqd x.l y.l by rw [HE.out, hi]; simp)
    clear hi
    go_enter Tryz.func56, Tryz.ntmps56
    go_wp2_with fail
    refine hc.out.mono ?_
    rintro e w1 ⟨rfl, hb1⟩
    go_wp2_with fail
    go_ret
    exact ⟨ret_bool HE.out.symm, below_a2 hb1⟩
  · have hd : (x.id == y.id) = false := by simp [hi]
    have HE := Lib.hid (show eqd x y = false by rw [HE.out]; simp [hi])
    clear hi hc
    go_enter Tryz.func56, Tryz.ntmps56
    go_wp2_with fail
    go_ret
    exact ⟨ret_bool HE.out.symm, up⟩
set_option maxHeartbeats 1000000 in
theorem impl_SameRows (xs : List R) (x : Value) (ys : List R) (y : Value) (w : World) {l1 h1 l2 h2 : Nat} (hx : RdR w l1 h1 x xs) (hh1 : h1 ≤ w.heap.size) (hy : RdR w l2 h2 y ys) (hh2 : h2 ≤ w.heap.size) :
    Calls Tryz.prog 37 #[x, y] w fun e w' => e = .returned (.bool (eqd xs ys)) ∧ Below w.heap.size w w' := by
  obtain ⟨A, c, rfl, hl, hl2⟩ := hx.form
  obtain ⟨A', c', rfl, hl', hl2'⟩ := hy.form
  by_cases hlen : xs.length = ys.length
  · have Hlen := Lib.hid hlen
    have hlb : ((xs.length : Int) != (ys.length : Int)) = false := by simp [hlen]
    rw [← hlen] at hl'
    clear hlen
    go_enter Tryz.func37, Tryz.ntmps37
    go_wp2_with fail
    go_loopw [13] (fun i wr => ∃ (k : Nat), i = .int .i64 k ∧ k ≤ xs.length ∧ xs.take k = ys.take k ∧ Below w.heap.size w wr) (fun i _ => xs.length - (intOf i).toNat)
    case atStart => exact ⟨0, by simp, by omega, by simp, Below.refl _ _⟩
    case round =>
      obtain ⟨k, rfl, hk, htk, hb⟩ := hrel
      have Htk := Lib.hid htk
      clear htk
      by_cases hkl : k < xs.length
      · obtain ⟨b, off, u, sv, rfl, -, hbl, huk, e0, e1, hr⟩ := (hx.below hb hh1).at hkl
        obtain ⟨b', off', u', sv', rfl, -, hbl', huk', e0', e1', hr'⟩ := (hy.below hb hh2).at (Hlen.out ▸ hkl)
        have Hs := Lib.hid (eq_of_drop Hlen.out Htk.out huk huk')
        have hkl' : k < ys.length := Hlen.out ▸ hkl
        clear huk huk'
        have hbs := hb.size
        have hC := Lib.hid (fun W (h : Below wr.heap.size wr W) => impl_SameRow u sv u' sv' W (hr.below h (by omega)) (Nat.le_trans (by omega) h.size) (hr'.below h (by omega)) (Nat.le_trans (by omega) h.size))
        clear hr hr'
        by_cases hu : u = u'
        · have hd : eqd u u' = true := eqd_of hu
          rw [hd] at hC
          have Hs1 := Lib.hid (Hs.out.1 hu)
          clear hu Hs hd
          go_wp2_with fail
          have q_0 := cell_regrown (w := wr) e0
          have q_1 := cell_regrown (w := wr) e1
          have q_2 := cell_regrown (w := wr) e0'
          have q_3 := cell_regrown (w := wr) e1'
          refine wp_region_quiet_below (by kernel_rfl) (by kernel_rfl) ?_
          repeat (go_big_quiet_step (first | (go_at_call 56; exact Calls.regrown_of (hC.out _ (below_regrown _ _ _)))))
          refine wpQuiet_nil ?_
          intro wq hw'
          obtain ⟨⟨dq, osq⟩, hw''⟩ := hw'
          have hbq := below_regrown wr dq osq
          rw [← hw''] at hbq
          clear hw''
          clear q_0 q_1 q_2 q_3
          go_wp2_with fail
          go_roundw
          case rel => exact ⟨k + 1, by go_num, by omega, Hs1.out, hb.trans (hbq.mono hb.size)⟩
          case measure => simp [intOf]; omega
        · have hd : eqd u u' = false := eqd_no hu
          rw [hd] at hC
          have H := Lib.hid (eqd_no (Hs.out.2 hu))
          clear hu Hs hd
          go_wp2_with fail
          have q_0 := cell_regrown (w := wr) e0
          have q_1 := cell_regrown (w := wr) e1
          have q_2 := cell_regrown (w := wr) e0'
          have q_3 := cell_regrown (w := wr) e1'
          refine wp_region_quiet_below (by kernel_rfl) (by kernel_rfl) ?_
          repeat (go_big_quiet_step (first | (go_at_call 56; exact Calls.regrown_of (hC.out _ (below_regrown _ _ _)))))
          refine wpQuiet_nil ?_
          intro wq hw'
          obtain ⟨⟨dq, osq⟩, hw''⟩ := hw'
          have hbq := below_regrown wr dq osq
          rw [← hw''] at hbq
          clear hw''
          clear q_0 q_1 q_2 q_3
          go_wp2_with fail
          go_ret
          exact ⟨ret_bool H.out.symm, hb.trans (hbq.mono hb.size)⟩
      · have H := Lib.hid (show eqd xs ys = true by
          have h := Htk.out
          rw [List.take_of_length_le (by omega), List.take_of_length_le (by have := Hlen.out; omega)] at h
          exact eqd_of h)
        go_wp2_with fail
        go_ret
        exact ⟨ret_bool H.out.symm, hb⟩
  · have hlb : ((xs.length : Int) != (ys.length : Int)) = true := by simp; omega
    have H := Lib.hid (eqd_no fun h : xs = ys => hlen (by rw [h]))
    clear hlen
    go_enter Tryz.func37, Tryz.ntmps37
    go_wp2_with fail
    go_ret
    exact ⟨ret_bool H.out.symm, Below.refl _ _⟩
set_option maxRecDepth 20000 in
set_option maxHeartbeats 1000000 in
theorem impl_SameResult (x : Res) (sv : Value) (y : Res) (sv' : Value) (w : World) {l1 h1 l2 h2 : Nat} (hx : RdR w l1 h1 sv x.rows) (hh1 : h1 ≤ w.heap.size) (hy : RdR w l2 h2 sv' y.rows) (hh2 : h2 ≤ w.heap.size) :
    Calls Tryz.prog 15 #[.agg #[sv, .int .i64 x.n, .bool x.has, .int .i64 x.v.ty, .int .i64 x.v.n, .string x.v.s], .agg #[sv', .int .i64 y.n, .bool y.has, .int .i64 y.v.ty, .int .i64 y.v.n, .string y.v.s]] w fun e w' => e = .returned (.bool (eqd x y)) ∧ Below w.heap.size w w' := by
  have hE : eqd x y = (eqd x.rows y.rows && x.n == y.n && x.has == y.has && eqd x.v y.v) := by
    obtain ⟨a, b, h, v⟩ := x
    obtain ⟨a', b', h', v'⟩ := y
    unfold eqd
    rw [Bool.eq_iff_iff]
    simp [and_assoc]
  have HE := Lib.hid hE
  clear hE
  have hgd := guard_V
  have he := eql_V x.v y.v
  have up := up_a2 w (.cells #[sv, .int .i64 x.n, .bool x.has, .int .i64 x.v.ty, .int .i64 x.v.n, .string x.v.s] 37) (.cells #[sv', .int .i64 y.n, .bool y.has, .int .i64 y.v.ty, .int .i64 y.v.n, .string y.v.s] 37)
  have hc := Lib.hid (impl_SameRows x.rows sv y.rows sv' _ (hx.below up hh1) (by simp only [World.size_alloc]; omega) (hy.below up hh2) (by simp only [World.size_alloc]; omega))
  go_enter Tryz.func15, Tryz.ntmps15
  go_wp2_with fail
  refine hc.out.mono ?_
  rintro e w1 ⟨rfl, hb1⟩
  have hcl := (bcell hb1).1
  have hz := hb1.size
  simp only [World.size_alloc] at hz
  have z0 : w.heap.size < w1.heap.size := by omega
  have z1 : w.heap.size + 1 < w1.heap.size := by omega
  replace hb1 := Lib.hid (below_a2 hb1)
  clear up hc
  cases q1 : eqd x.rows y.rows <;> cases q2 : (x.n == y.n) <;> cases q3 : (x.has == y.has)
  all_goals
    rw [q1, q2, q3] at HE
    have HE := Lib.hid HE.out
    go_wp2_with fail
    go_ret
    exact ⟨ret_bool (by rw [HE.out]; simp), hb1.out⟩
end Go.Proofs.YtidmlfjolhnnfaaGreatDoor
namespace Go.Proofs.YtidmlfjolhnnfaaGreatDoor
open Go.Sort Go.ChangeShapes Go.WideShapes Go.ChangeAt Go.RowKit Go.Lb
set_option maxHeartbeats 1000000 in
theorem laws_sameVals2 (xs : List V) (x : Value) (ys : List V) (y : Value) (w : World) {l1 h1 l2 h2 : Nat} (hx : RdV w l1 h1 x xs) (hh1 : h1 ≤ w.heap.size) (hy : RdV w l2 h2 y ys) (hh2 : h2 ≤ w.heap.size) :
    Calls Tryz.prog 46 #[x, y] w fun e w' => e = .returned (.bool (eqd xs ys)) ∧ Below w.heap.size w w' := by
  obtain ⟨A, c, rfl, hl, hl2⟩ := hx.form
  obtain ⟨A', c', rfl, hl', hl2'⟩ := hy.form
  have hgd := guard_V
  by_cases hlen : xs.length = ys.length
  · have Hlen := Lib.hid hlen
    have hlb : ((xs.length : Int) != (ys.length : Int)) = false := by simp [hlen]
    rw [← hlen] at hl'
    clear hlen
    go_enter Tryz.func46, Tryz.ntmps46
    go_wp2_with fail
    go_loopw [5] (fun i wr => ∃ (k : Nat), i = .int .i64 k ∧ k ≤ xs.length ∧ xs.take k = ys.take k ∧ Below w.heap.size w wr) (fun i _ => xs.length - (intOf i).toNat)
    case atStart => exact ⟨0, by simp, by omega, by simp, Below.refl _ _⟩
    case round =>
      obtain ⟨k, rfl, hk, htk, hb⟩ := hrel
      have Htk := Lib.hid htk
      clear htk
      by_cases hkl : k < xs.length
      · obtain ⟨b, off, u, rfl, -, hbl, huk, e0, e1, e2⟩ := (hx.below hb hh1).at hkl
        obtain ⟨b', off', u', rfl, -, hbl', huk', e0', e1', e2'⟩ := (hy.below hb hh2).at (Hlen.out ▸ hkl)
        have Hs := Lib.hid (eq_of_drop Hlen.out Htk.out huk huk')
        have hkl' : k < ys.length := Hlen.out ▸ hkl
        have hne := neq_V u u'
        clear huk huk'
        by_cases hu : u = u'
        · have hd : eqd u u' = true := eqd_of hu
          rw [hd] at hne
          have Hs1 := Lib.hid (Hs.out.1 hu)
          clear hu Hs hd
          go_wp2_with fail
          go_region
          go_wp2_with fail
          go_roundw
          case rel => exact ⟨k + 1, by go_num, by omega, Hs1.out, hb.drew⟩
          case measure => simp [intOf]; omega
        · have hd : eqd u u' = false := eqd_no hu
          rw [hd] at hne
          have H := Lib.hid (eqd_no (Hs.out.2 hu))
          clear hu Hs hd
          go_wp2_with fail
          go_region
          go_wp2_with fail
          go_ret
          exact ⟨ret_bool H.out.symm, hb.drew⟩
      · have H := Lib.hid (show eqd xs ys = true by
          have h := Htk.out
          rw [List.take_of_length_le (by omega), List.take_of_length_le (by have := Hlen.out; omega)] at h
          exact eqd_of h)
        go_wp2_with fail
        go_ret
        exact ⟨ret_bool H.out.symm, hb⟩
  · have hlb : ((xs.length : Int) != (ys.length : Int)) = true := by simp; omega
    have H := Lib.hid (eqd_no fun h : xs = ys => hlen (by rw [h]))
    clear hlen
    go_enter Tryz.func46, Tryz.ntmps46
    go_wp2_with fail
    go_ret
    exact ⟨ret_bool H.out.symm, Below.refl _ _⟩
set_option maxHeartbeats 2000000 in
theorem laws_sameRows2 (xs : List R) (x : Value) (ys : List R) (y : Value) (w : World) {l1 h1 l2 h2 : Nat} (hx : RdR w l1 h1 x xs) (hh1 : h1 ≤ w.heap.size) (hy : RdR w l2 h2 y ys) (hh2 : h2 ≤ w.heap.size) :
    Calls Tryz.prog 24 #[x, y] w fun e w' => e = .returned (.bool (eqd xs ys)) ∧ Below w.heap.size w w' := by
  obtain ⟨A, c, rfl, hl, hl2⟩ := hx.form
  obtain ⟨A', c', rfl, hl', hl2'⟩ := hy.form
  by_cases hlen : xs.length = ys.length
  · have Hlen := Lib.hid hlen
    have hlb : ((xs.length : Int) != (ys.length : Int)) = false := by simp [hlen]
    rw [← hlen] at hl'
    clear hlen
    go_enter Tryz.func24, Tryz.ntmps24
    go_wp2_with fail
    go_loopw [5] (fun i wr => ∃ (k : Nat), i = .int .i64 k ∧ k ≤ xs.length ∧ xs.take k = ys.take k ∧ Below w.heap.size w wr) (fun i _ => xs.length - (intOf i).toNat)
    case atStart => exact ⟨0, by simp, by omega, by simp, Below.refl _ _⟩
    case round =>
      obtain ⟨k, rfl, hk, htk, hb⟩ := hrel
      have Htk := Lib.hid htk
      clear htk
      by_cases hkl : k < xs.length
      · obtain ⟨b, off, u, sv, rfl, -, hbl, huk, e0, e1, hr⟩ := (hx.below hb hh1).at hkl
        obtain ⟨b', off', u', sv', rfl, -, hbl', huk', e0', e1', hr'⟩ := (hy.below hb hh2).at (Hlen.out ▸ hkl)
        have Hs := Lib.hid (eq_of_drop Hlen.out Htk.out huk huk')
        have hkl' : k < ys.length := Hlen.out ▸ hkl
        have hbs := hb.size
        have hC := fun W (h : Below wr.heap.size wr W) => laws_sameVals2 u.l sv u'.l sv' W (hr.below h (by omega)) (Nat.le_trans (by omega) h.size) (hr'.below h (by omega)) (Nat.le_trans (by omega) h.size)
        clear hr hr' huk huk'
        have hE : u = u' ↔ u.id = u'.id ∧ u.l = u'.l := by cases u; cases u'; simp
        by_cases hi : u.id = u'.id
        · have hd : (u.id != u'.id) = false := by simp [hi]
          by_cases hv : u.l = u'.l
          · rw [eqd_of hv] at hC
            have HC := Lib.hid hC
            have Hs1 := Lib.hid (Hs.out.1 (hE.2 ⟨hi, hv⟩))
            clear hi hv Hs hE hC
            go_wp2_with fail
            have q_0 := cell_regrown (w := wr) e0
            have q_1 := cell_regrown (w := wr) e1
            have q_2 := cell_regrown (w := wr) e0'
            have q_3 := cell_regrown (w := wr) e1'
            refine wp_region_quiet_below (by kernel_rfl) (by kernel_rfl) ?_
            repeat (go_big_quiet_step (first | (go_at_call 46; exact Calls.regrown_of (HC.out _ (below_regrown _ _ _)))))
            refine wpQuiet_nil ?_
            intro wq hw'
            obtain ⟨⟨dq, osq⟩, hw''⟩ := hw'
            have hbq := below_regrown wr dq osq
            rw [← hw''] at hbq
            clear hw''
            clear q_0 q_1 q_2 q_3
            go_wp2_with fail
            go_roundw
            case rel => exact ⟨k + 1, by go_num, by omega, Hs1.out, hb.trans (hbq.mono hb.size)⟩
            case measure => simp [intOf]; omega
          · rw [eqd_no hv] at hC
            have HC := Lib.hid hC
            have H := Lib.hid (eqd_no (Hs.out.2 fun e => hv (hE.1 e).2))
            clear hi hv Hs hE hC
            go_wp2_with fail
            have q_0 := cell_regrown (w := wr) e0
            have q_1 := cell_regrown (w := wr) e1
            have q_2 := cell_regrown (w := wr) e0'
            have q_3 := cell_regrown (w := wr) e1'
            refine wp_region_quiet_below (by kernel_rfl) (by kernel_rfl) ?_
            repeat (go_big_quiet_step (first | (go_at_call 46; exact Calls.regrown_of (HC.out _ (below_regrown _ _ _)))))
            refine wpQuiet_nil ?_
            intro wq hw'
            obtain ⟨⟨dq, osq⟩, hw''⟩ := hw'
            have hbq := below_regrown wr dq osq
            rw [← hw''] at hbq
            clear hw''
            clear q_0 q_1 q_2 q_3
            go_wp2_with fail
            go_ret
            exact ⟨ret_bool H.out.symm, hb.trans (hbq.mono hb.size)⟩
        · have hd : (u.id != u'.id) = true := by simp [hi]
          have H := Lib.hid (eqd_no (Hs.out.2 fun e => hi (hE.1 e).1))
          clear hi Hs hE hC
          go_wp2_with fail
          have q_0 := cell_regrown (w := wr) e0
          have q_1 := cell_regrown (w := wr) e1
          have q_2 := cell_regrown (w := wr) e0'
          have q_3 := cell_regrown (w := wr) e1'
          refine wp_region_quiet_below (by kernel_rfl) (by kernel_rfl) ?_
          repeat (go_big_quiet_step (fail))
          refine wpQuiet_nil ?_
          intro wq hw'
          obtain ⟨⟨dq, osq⟩, hw''⟩ := hw'
          have hbq := below_regrown wr dq osq
          rw [← hw''] at hbq
          clear hw''
          clear q_0 q_1 q_2 q_3
          go_wp2_with fail
          go_ret
          exact ⟨ret_bool H.out.symm, hb.trans (hbq.mono hb.size)⟩
      · have H := Lib.hid (show eqd xs ys = true by
          have h := Htk.out
          rw [List.take_of_length_le (by omega), List.take_of_length_le (by have := Hlen.out; omega)] at h
          exact eqd_of h)
        go_wp2_with fail
        go_ret
        exact ⟨ret_bool H.out.symm, hb⟩
  · have hlb : ((xs.length : Int) != (ys.length : Int)) = true := by simp; omega
    have H := Lib.hid (eqd_no (show xs ≠ ys from fun e => hlen (by rw [e])))
    clear hlen
    go_enter Tryz.func24, Tryz.ntmps24
    go_wp2_with fail
    go_ret
    exact ⟨ret_bool H.out.symm, Below.refl _ _⟩
end Go.Proofs.YtidmlfjolhnnfaaGreatDoor
