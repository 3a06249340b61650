/- Columns, and rows that fit them: contracts. -/
import Derived.Test.YticimccfeohpcaaGreatXV
import Derived.Test.YticimccfeohpcaaGreatXA
namespace Go.Proofs.YticimccfeohpcaaGreat
open Go.Sort Go.ChangeShapes Go.WideShapes Go.ChangeAt Go.RowKit Go.Lb

def colsOk (l : List Int) : Bool := (l.all fun t => inR t 1 2) && inR (l.length : Int) 1 3
def fitsAt (p : Int × V) : Bool := valOk p.2 && (p.2.ty == p.1)
def fitsCols (cols : List Int) (l : List V) : Bool := (cols.length == l.length) && (cols.zip l).all fitsAt
def rowOk (cols : List Int) (r : R) : Bool := decide (0 ≤ r.id) && fitsCols cols r.l
theorem colsOk_no {l : List Int} {k : Nat} {t : Int} (h : l[k]? = some t) (ht : inR t 1 2 = false) : colsOk l = false := by
  have h1 : (l.all fun t => inR t 1 2) = false := by
    rw [List.all_eq_false]
    exact ⟨t, mem_of_get h, by simp [ht]⟩
  simp [colsOk, h1]
theorem colsOk_end {l : List Int} (h : (l.take l.length).all (fun t => inR t 1 2) = true) : colsOk l = inR (l.length : Int) 1 3 := by
  rw [List.take_length] at h
  simp [colsOk, h]
theorem zip_at {cols : List Int} {l : List V} {k : Nat} {c : Int} {y : V} (hc : cols[k]? = some c) (hy : l[k]? = some y) : (cols.zip l)[k]? = some (c, y) := List.getElem?_zip_eq_some.2 ⟨hc, hy⟩
theorem fits_no {cols : List Int} {l : List V} {k : Nat} {c : Int} {y : V} (hc : cols[k]? = some c) (hy : l[k]? = some y) (h : fitsAt (c, y) = false) : fitsCols cols l = false := by
  have h1 : (cols.zip l).all fitsAt = false := by
    rw [List.all_eq_false]
    exact ⟨_, mem_of_get (zip_at hc hy), by simp [h]⟩
  simp [fitsCols, h1]
theorem fits_step {cols : List Int} {l : List V} {k : Nat} {c : Int} {y : V} (hc : cols[k]? = some c) (hy : l[k]? = some y) (h : fitsAt (c, y) = true) (ha : ((cols.zip l).take k).all fitsAt = true) : ((cols.zip l).take (k + 1)).all fitsAt = true := by
  rw [take_of_get (zip_at hc hy), List.all_append, ha]
  simp [h]
theorem fits_end {cols : List Int} {l : List V} (hl : cols.length = l.length) (h : ((cols.zip l).take l.length).all fitsAt = true) : fitsCols cols l = true := by
  rw [List.take_of_length_le (by simp; omega)] at h
  simp [fitsCols, hl, h]
theorem fits_len {cols : List Int} {l : List V} (hl : cols.length ≠ l.length) : fitsCols cols l = false := by simp [fitsCols, hl]

set_option maxHeartbeats 1000000 in
theorem spec_ColsOk (l : List Int) (x : Value) (w : World) {lo hi : Nat} (hx : RdI w lo hi x l) (_hhi : hi ≤ w.heap.size) :
    Calls Tryz.prog 72 #[x] w fun e w' => e = .returned (.bool (colsOk l)) ∧ w = w' := by
  obtain ⟨A, c, rfl, hl, hl2⟩ := hx.form
  go_enter Tryz.func72, Tryz.ntmps72
  go_wp2_with fail
  go_loop [3] (fun i => ∃ k : Nat, i = .int .i64 k ∧ k ≤ l.length ∧ (l.take k).all (fun t => inR t 1 2) = true) (fun i => l.length - (intOf i).toNat)
  case atStart => exact ⟨0, rfl, by omega, by simp⟩
  case round =>
    obtain ⟨k, rfl, hk, hall⟩ := hrel
    have Hall := Lib.hid hall
    clear hall
    by_cases hkl : k < l.length
    · obtain ⟨b, off, y, rfl, -, hbl, hyk, e0⟩ := hx.at hkl
      cases hI : inR y 1 2
      · have H := Lib.hid (colsOk_no hyk hI)
        clear hyk
        go_wp2_with fail
        refine (q_spec_l1In _ _ _ _).mono ?_
        rintro e w1 ⟨rfl, rfl⟩
        rw [hI]
        go_wp2_with fail
        go_ret
        exact ⟨ret_bool H.out.symm, rfl⟩
      · have Ht := Lib.hid (show (l.take (k + 1)).all (fun t => inR t 1 2) = true by rw [take_of_get hyk, List.all_append, Hall.out]; simp [hI])
        clear hyk
        go_wp2_with fail
        refine (q_spec_l1In _ _ _ _).mono ?_
        rintro e w1 ⟨rfl, rfl⟩
        rw [hI]
        go_wp2_with fail
        go_round
        case rel => exact ⟨k + 1, by go_num, by omega, Ht.out⟩
        case measure => simp [intOf]; omega
    · have H := Lib.hid (colsOk_end (l := l) (by have h := Hall.out; rwa [show k = l.length by omega] at h))
      go_wp2_with fail
      refine (q_spec_l1In _ _ _ _).mono ?_
      rintro e w1 ⟨rfl, rfl⟩
      go_wp2_with fail
      go_ret
      exact ⟨ret_bool H.out.symm, rfl⟩
set_option maxHeartbeats 1000000 in
theorem impl_ColsOk (l : List Int) (x : Value) (w : World) {lo hi : Nat} (hx : RdI w lo hi x l) (_hhi : hi ≤ w.heap.size) :
    Calls Tryz.prog 76 #[x] w fun e w' => e = .returned (.bool (colsOk l)) ∧ w = w' := by
  obtain ⟨A, c, rfl, hl, hl2⟩ := hx.form
  go_enter Tryz.func76, Tryz.ntmps76
  go_wp2_with fail
  go_loop [7] (fun i => ∃ k : Nat, i = .int .i64 k ∧ k ≤ l.length ∧ (l.take k).all (fun t => inR t 1 2) = true) (fun i => l.length - (intOf i).toNat)
  case atStart => exact ⟨0, rfl, by omega, by simp⟩
  case round =>
    obtain ⟨k, rfl, hk, hall⟩ := hrel
    have Hall := Lib.hid hall
    clear hall
    by_cases hkl : k < l.length
    · obtain ⟨b, off, y, rfl, -, hbl, hyk, e0⟩ := hx.at hkl
      have HN := Lib.hid (fun h => colsOk_no (l := l) hyk h)
      have HY := Lib.hid (fun (h : inR y 1 2 = true) => (show (l.take (k + 1)).all (fun t => inR t 1 2) = true by rw [take_of_get hyk, List.all_append, Hall.out]; simp [h]))
      clear hyk
      by_cases h1 : y = 1
      · have d1 : (y != 1) = false := by simp [h1]
        have Ht := Lib.hid (HY.out (inR_of (by omega) (by omega)))
        clear h1
        go_wp2_with fail
        go_round
        case rel => exact ⟨k + 1, by go_num, by omega, Ht.out⟩
        case measure => simp [intOf]; omega
      by_cases h2 : y = 2
      · have d1 : (y != 1) = true := by simp [h1]
        have d2 : (y != 2) = false := by simp [h2]
        have Ht := Lib.hid (HY.out (inR_of (by omega) (by omega)))
        clear h1 h2
        go_wp2_with fail
        go_round
        case rel => exact ⟨k + 1, by go_num, by omega, Ht.out⟩
        case measure => simp [intOf]; omega
      · have d1 : (y != 1) = true := by simp [h1]
        have d2 : (y != 2) = true := by simp [h2]
        have H := Lib.hid (HN.out (inR_not (by omega)))
        clear h1 h2
        go_wp2_with fail
        go_ret
        exact ⟨ret_bool H.out.symm, rfl⟩
    · have H := Lib.hid (colsOk_end (l := l) (by have h := Hall.out; rwa [show k = l.length by omega] at h))
      go_wp2_with fail
      refine (q_impl_within _ _ _ _).mono ?_
      rintro e w1 ⟨rfl, rfl⟩
      go_wp2_with fail
      go_ret
      exact ⟨ret_bool H.out.symm, rfl⟩
set_option maxHeartbeats 2000000 in
theorem spec_FitsCols (cols : List Int) (cv : Value) (l : List V) (x : Value) (w : World) {l1 h1 lo hi : Nat} (hc : RdI w l1 h1 cv cols) (hh1 : h1 ≤ w.heap.size) (hx : RdV w lo hi x l) (hhi : hi ≤ w.heap.size) (hs : ∀ v ∈ l, v.s.size ≤ maxLen) :
    Calls Tryz.prog 161 #[cv, x] w fun e w' => e = .returned (.bool (fitsCols cols l)) ∧ Below w.heap.size w w' := by
  obtain ⟨A, c, rfl, hl, hl2⟩ := hx.form
  obtain ⟨A', c', rfl, hl', hl2'⟩ := hc.form
  have Hs := Lib.hid hs
  clear hs
  by_cases hlen : cols.length = l.length
  · have Hlen := Lib.hid hlen
    have hlb : ((cols.length : Int) != (l.length : Int)) = false := by simp [hlen]
    clear hlen
    go_enter Tryz.func161, Tryz.ntmps161
    go_wp2_with fail
    go_loopw [5] (fun i wr => ∃ k : Nat, i = .int .i64 k ∧ k ≤ l.length ∧ ((cols.zip l).take k).all fitsAt = true ∧ Below w.heap.size w wr) (fun i _ => l.length - (intOf i).toNat)
    case atStart => exact ⟨0, rfl, by omega, by simp, Below.refl _ _⟩
    case round =>
      obtain ⟨k, rfl, hk, hall, hb⟩ := hrel
      have Hall := Lib.hid hall
      clear hall
      by_cases hkl : k < l.length
      · obtain ⟨b, off, y, rfl, -, hbl, hyk, e0, e1, e2⟩ := (hx.below hb hhi).at hkl
        have hkc : k < cols.length := by have := Hlen.out; omega
        obtain ⟨b', off', u, rfl, -, hbl', huk, f0⟩ := (hc.below hb hh1).at hkc
        have hsy := Hs.out y (List.mem_of_getElem? hyk)
        have HN := Lib.hid (fun h => fits_no (cols := cols) (l := l) huk hyk h)
        have HY := Lib.hid (fun h => fits_step (cols := cols) (l := l) huk hyk h Hall.out)
        clear hyk huk
        cases hv : valOk y
        · have H := Lib.hid (HN.out (by simp [fitsAt, hv]))
          go_wp2_with fail
          have q_0 := cell_regrown (w := wr) e0
          have q_1 := cell_regrown (w := wr) e1
          have q_2 := cell_regrown (w := wr) e2
          have q_3 := cell_regrown (w := wr) f0
          refine wp_region_quiet_below (by kernel_rfl) (by kernel_rfl) ?_
          repeat (go_big_quiet_step (first | (go_at_call 127; exact Calls.regrown_of (spec_ValOk y _ hsy))))
          refine wpQuiet_nil ?_
          intro wq hw'
          obtain ⟨⟨dq, osq⟩, hw''⟩ := hw'
          have hbq := below_regrown wr dq osq
          rw [← hw''] at hbq
          clear hw''
          clear q_0 q_1 q_2 q_3
          go_wp2_with fail
          go_ret
          exact ⟨ret_bool H.out.symm, hb.trans (hbq.mono hb.size)⟩
        · by_cases hne : y.ty = u
          · have hne2 : (y.ty != u) = false := by simp [hne]
            have Ht := Lib.hid (HY.out (by simp [fitsAt, hv, hne]))
            clear hne
            go_wp2_with fail
            have q_0 := cell_regrown (w := wr) e0
            have q_1 := cell_regrown (w := wr) e1
            have q_2 := cell_regrown (w := wr) e2
            have q_3 := cell_regrown (w := wr) f0
            refine wp_region_quiet_below (by kernel_rfl) (by kernel_rfl) ?_
            repeat (go_big_quiet_step (first | (go_at_call 127; exact Calls.regrown_of (spec_ValOk y _ hsy))))
            refine wpQuiet_nil ?_
            intro wq hw'
            obtain ⟨⟨dq, osq⟩, hw''⟩ := hw'
            have hbq := below_regrown wr dq osq
            rw [← hw''] at hbq
            clear hw''
            clear q_0 q_1 q_2 q_3
            go_wp2_with fail
            have hbw := hb.trans (hbq.mono hb.size)
            go_roundw
            case rel => exact ⟨k + 1, by go_num, by omega, Ht.out, hbw⟩
            case measure => simp [intOf]; omega
          · have hne2 : (y.ty != u) = true := by simp [hne]
            have H := Lib.hid (HN.out (by simp [fitsAt, hne]))
            clear hne
            go_wp2_with fail
            have q_0 := cell_regrown (w := wr) e0
            have q_1 := cell_regrown (w := wr) e1
            have q_2 := cell_regrown (w := wr) e2
            have q_3 := cell_regrown (w := wr) f0
            refine wp_region_quiet_below (by kernel_rfl) (by kernel_rfl) ?_
            repeat (go_big_quiet_step (first | (go_at_call 127; exact Calls.regrown_of (spec_ValOk y _ hsy))))
            refine wpQuiet_nil ?_
            intro wq hw'
            obtain ⟨⟨dq, osq⟩, hw''⟩ := hw'
            have hbq := below_regrown wr dq osq
            rw [← hw''] at hbq
            clear hw''
            clear q_0 q_1 q_2 q_3
            go_wp2_with fail
            go_ret
            exact ⟨ret_bool H.out.symm, hb.trans (hbq.mono hb.size)⟩
      · have H := Lib.hid (fits_end Hlen.out (by have h := Hall.out; rwa [show k = l.length by omega] at h))
        go_wp2_with fail
        go_ret
        exact ⟨ret_bool H.out.symm, hb⟩
  · have hlb : ((cols.length : Int) != (l.length : Int)) = true := by simp; omega
    have H := Lib.hid (fits_len hlen)
    clear hlen
    go_enter Tryz.func161, Tryz.ntmps161
    go_wp2_with fail
    go_ret
    exact ⟨ret_bool H.out.symm, Below.refl _ _⟩
set_option maxHeartbeats 2000000 in
theorem impl_FitsCols (cols : List Int) (cv : Value) (l : List V) (x : Value) (w : World) {l1 h1 lo hi : Nat} (hc : RdI w l1 h1 cv cols) (hh1 : h1 ≤ w.heap.size) (hx : RdV w lo hi x l) (hhi : hi ≤ w.heap.size) (hs : ∀ v ∈ l, v.s.size ≤ maxLen) :
    Calls Tryz.prog 160 #[cv, x] w fun e w' => e = .returned (.bool (fitsCols cols l)) ∧ Below w.heap.size w w' := by
  obtain ⟨A, c, rfl, hl, hl2⟩ := hx.form
  obtain ⟨A', c', rfl, hl', hl2'⟩ := hc.form
  have Hs := Lib.hid hs
  clear hs
  by_cases hlen : cols.length = l.length
  · have Hlen := Lib.hid hlen
    have hlb : ((l.length : Int) != (cols.length : Int)) = false := by simp [hlen]
    clear hlen
    go_enter Tryz.func160, Tryz.ntmps160
    go_wp2_with fail
    go_loopw [14] (fun i wr => ∃ k : Nat, i = .int .i64 k ∧ k ≤ l.length ∧ ((cols.zip l).take k).all fitsAt = true ∧ Below w.heap.size w wr) (fun i _ => l.length - (intOf i).toNat)
    case atStart => exact ⟨0, rfl, by omega, by simp, Below.refl _ _⟩
    case round =>
      obtain ⟨k, rfl, hk, hall, hb⟩ := hrel
      have Hall := Lib.hid hall
      clear hall
      by_cases hkl : k < l.length
      · obtain ⟨b, off, y, rfl, -, hbl, hyk, e0, e1, e2⟩ := (hx.below hb hhi).at hkl
        have hkc : k < cols.length := by have := Hlen.out; omega
        obtain ⟨b', off', u, rfl, -, hbl', huk, f0⟩ := (hc.below hb hh1).at hkc
        have hsy := Hs.out y (List.mem_of_getElem? hyk)
        have HN := Lib.hid (fun h => fits_no (cols := cols) (l := l) huk hyk h)
        have HY := Lib.hid (fun h => fits_step (cols := cols) (l := l) huk hyk h Hall.out)
        have hbs := hb.size
        have hup := up_a1 wr (.cells #[.int .i64 y.ty, .int .i64 y.n, .string y.s] 83)
        have f0n := (hup.cell (p := ⟨b', off' + k, none⟩) (show b' < wr.heap.size by omega)).trans f0
        have n0 := box_new wr #[.int .i64 y.ty, .int .i64 y.n, .string y.s] 83 0
        have n1 := box_new wr #[.int .i64 y.ty, .int .i64 y.n, .string y.s] 83 1
        have n2 := box_new wr #[.int .i64 y.ty, .int .i64 y.n, .string y.s] 83 2
        simp only [List.getElem?_toArray, List.getElem?_cons_zero, List.getElem?_cons_succ] at n0 n1 n2
        clear hyk huk
        cases hv : valOk y
        · have H := Lib.hid (HN.out (by simp [fitsAt, hv]))
          go_wp2_with fail
          have q_0 := cell_regrown (w := (wr.alloc (.cells #[.int .i64 y.ty, .int .i64 y.n, .string y.s] 83))) n0
          have q_1 := cell_regrown (w := (wr.alloc (.cells #[.int .i64 y.ty, .int .i64 y.n, .string y.s] 83))) n1
          have q_2 := cell_regrown (w := (wr.alloc (.cells #[.int .i64 y.ty, .int .i64 y.n, .string y.s] 83))) n2
          have q_3 := cell_regrown (w := (wr.alloc (.cells #[.int .i64 y.ty, .int .i64 y.n, .string y.s] 83))) f0n
          refine wp_region_quiet_below (by kernel_rfl) (by kernel_rfl) ?_
          repeat (go_big_quiet_step (first | (go_at_call 103; exact Calls.regrown_of (impl_ValOk y _ hsy))))
          refine wpQuiet_nil ?_
          intro wq hw'
          obtain ⟨⟨dq, osq⟩, hw''⟩ := hw'
          have hbq := below_regrown (wr.alloc (.cells #[.int .i64 y.ty, .int .i64 y.n, .string y.s] 83)) dq osq
          rw [← hw''] at hbq
          clear hw''
          clear q_0 q_1 q_2 q_3
          go_wp2_with fail
          go_ret
          exact ⟨ret_bool H.out.symm, hb.trans ((below_a1 hbq).mono hb.size)⟩
        · by_cases hne : y.ty = u
          · have hne2 : (y.ty != u) = false := by simp [hne]
            have Ht := Lib.hid (HY.out (by simp [fitsAt, hv, hne]))
            clear hne
            go_wp2_with fail
            have q_0 := cell_regrown (w := (wr.alloc (.cells #[.int .i64 y.ty, .int .i64 y.n, .string y.s] 83))) n0
            have q_1 := cell_regrown (w := (wr.alloc (.cells #[.int .i64 y.ty, .int .i64 y.n, .string y.s] 83))) n1
            have q_2 := cell_regrown (w := (wr.alloc (.cells #[.int .i64 y.ty, .int .i64 y.n, .string y.s] 83))) n2
            have q_3 := cell_regrown (w := (wr.alloc (.cells #[.int .i64 y.ty, .int .i64 y.n, .string y.s] 83))) f0n
            refine wp_region_quiet_below (by kernel_rfl) (by kernel_rfl) ?_
            repeat (go_big_quiet_step (first | (go_at_call 103; exact Calls.regrown_of (impl_ValOk y _ hsy))))
            refine wpQuiet_nil ?_
            intro wq hw'
            obtain ⟨⟨dq, osq⟩, hw''⟩ := hw'
            have hbq := below_regrown (wr.alloc (.cells #[.int .i64 y.ty, .int .i64 y.n, .string y.s] 83)) dq osq
            rw [← hw''] at hbq
            clear hw''
            clear q_0 q_1 q_2 q_3
            go_wp2_with fail
            have hbw := hb.trans ((below_a1 hbq).mono hb.size)
            go_roundw
            case rel => exact ⟨k + 1, by go_num, by omega, Ht.out, hbw⟩
            case measure => simp [intOf]; omega
          · have hne2 : (y.ty != u) = true := by simp [hne]
            have H := Lib.hid (HN.out (by simp [fitsAt, hne]))
            clear hne
            go_wp2_with fail
            have q_0 := cell_regrown (w := (wr.alloc (.cells #[.int .i64 y.ty, .int .i64 y.n, .string y.s] 83))) n0
            have q_1 := cell_regrown (w := (wr.alloc (.cells #[.int .i64 y.ty, .int .i64 y.n, .string y.s] 83))) n1
            have q_2 := cell_regrown (w := (wr.alloc (.cells #[.int .i64 y.ty, .int .i64 y.n, .string y.s] 83))) n2
            have q_3 := cell_regrown (w := (wr.alloc (.cells #[.int .i64 y.ty, .int .i64 y.n, .string y.s] 83))) f0n
            refine wp_region_quiet_below (by kernel_rfl) (by kernel_rfl) ?_
            repeat (go_big_quiet_step (first | (go_at_call 103; exact Calls.regrown_of (impl_ValOk y _ hsy))))
            refine wpQuiet_nil ?_
            intro wq hw'
            obtain ⟨⟨dq, osq⟩, hw''⟩ := hw'
            have hbq := below_regrown (wr.alloc (.cells #[.int .i64 y.ty, .int .i64 y.n, .string y.s] 83)) dq osq
            rw [← hw''] at hbq
            clear hw''
            clear q_0 q_1 q_2 q_3
            go_wp2_with fail
            go_ret
            exact ⟨ret_bool H.out.symm, hb.trans ((below_a1 hbq).mono hb.size)⟩
      · have H := Lib.hid (fits_end Hlen.out (by have h := Hall.out; rwa [show k = l.length by omega] at h))
        go_wp2_with fail
        go_ret
        exact ⟨ret_bool H.out.symm, hb⟩
  · have hlb : ((l.length : Int) != (cols.length : Int)) = true := by simp; omega
    have H := Lib.hid (fits_len hlen)
    clear hlen
    go_enter Tryz.func160, Tryz.ntmps160
    go_wp2_with fail
    go_ret
    exact ⟨ret_bool H.out.symm, Below.refl _ _⟩
set_option maxHeartbeats 400000 in
theorem spec_RowOk (cols : List Int) (cv : Value) (r : R) (sv : Value) (w : World) {l1 h1 lo hi : Nat} (hc : RdI w l1 h1 cv cols) (hh1 : h1 ≤ w.heap.size) (hx : RdV w lo hi sv r.l) (hhi : hi ≤ w.heap.size) (hs : ∀ v ∈ r.l, v.s.size ≤ maxLen) :
    Calls Tryz.prog 111 #[cv, .agg #[.int .i64 r.id, sv]] w fun e w' => e = .returned (.bool (rowOk cols r)) ∧ Below w.heap.size w w' := by
  have up := up_a1 w (.cells #[.int .i64 r.id, sv] 70)
  have hcall := Lib.hid (spec_FitsCols cols cv r.l sv _ (hc.below up hh1) (by simp only [World.size_alloc]; omega) (hx.below up hhi) (by simp only [World.size_alloc]; omega) hs)
  have HR := Lib.hid (show rowOk cols r = (decide (0 ≤ r.id) && fitsCols cols r.l) from rfl)
  clear hs
  by_cases h0 : 0 ≤ r.id
  · have HR := Lib.hid (show rowOk cols r = fitsCols cols r.l by rw [HR.out]; simp [h0])
    go_enter Tryz.func111, Tryz.ntmps111
    go_wp2_with fail
    refine hcall.out.mono ?_
    rintro e w1 ⟨rfl, hb1⟩
    go_wp2_with fail
    go_ret
    exact ⟨ret_bool HR.out.symm, below_a1 hb1⟩
  · have HR := Lib.hid (show rowOk cols r = false by rw [HR.out]; simp [h0])
    go_enter Tryz.func111, Tryz.ntmps111
    go_wp2_with fail
    go_ret
    exact ⟨ret_bool HR.out.symm, up⟩
set_option maxHeartbeats 400000 in
theorem impl_RowOk (cols : List Int) (cv : Value) (r : R) (sv : Value) (w : World) {l1 h1 lo hi : Nat} (hc : RdI w l1 h1 cv cols) (hh1 : h1 ≤ w.heap.size) (hx : RdV w lo hi sv r.l) (hhi : hi ≤ w.heap.size) (hs : ∀ v ∈ r.l, v.s.size ≤ maxLen) :
    Calls Tryz.prog 110 #[cv, .agg #[.int .i64 r.id, sv]] w fun e w' => e = .returned (.bool (rowOk cols r)) ∧ Below w.heap.size w w' := by
  have up := up_a1 w (.cells #[.int .i64 r.id, sv] 70)
  have hcall := Lib.hid (impl_FitsCols cols cv r.l sv _ (hc.below up hh1) (by simp only [World.size_alloc]; omega) (hx.below up hhi) (by simp only [World.size_alloc]; omega) hs)
  have HR := Lib.hid (show rowOk cols r = (decide (0 ≤ r.id) && fitsCols cols r.l) from rfl)
  clear hs
  by_cases h0 : 0 ≤ r.id
  · have HR := Lib.hid (show rowOk cols r = fitsCols cols r.l by rw [HR.out]; simp [h0])
    go_enter Tryz.func110, Tryz.ntmps110
    go_wp2_with fail
    refine hcall.out.mono ?_
    rintro e w1 ⟨rfl, hb1⟩
    go_wp2_with fail
    go_ret
    exact ⟨ret_bool HR.out.symm, below_a1 hb1⟩
  · have HR := Lib.hid (show rowOk cols r = false by rw [HR.out]; simp [h0])
    go_enter Tryz.func110, Tryz.ntmps110
    go_wp2_with fail
    go_ret
    exact ⟨ret_bool HR.out.symm, up⟩
end Go.Proofs.YticimccfeohpcaaGreat
