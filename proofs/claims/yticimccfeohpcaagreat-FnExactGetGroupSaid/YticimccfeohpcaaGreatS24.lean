/- Rows in order that fit their columns: contracts. -/
import Derived.Test.YticimccfeohpcaaGreatS23
namespace Go.Proofs.YticimccfeohpcaaGreat
open Go.Sort Go.ChangeShapes Go.WideShapes Go.ChangeAt Go.RowKit Go.Lb

def prevAt (l : List R) (k : Nat) : Option R := if k = 0 then none else l[k - 1]?
def okAt (cols : List Int) (p : Option R) (r : R) : Bool := rowOk cols r && (decide (r.id ≤ 1000000000) && (match p with | none => true | some q => decide (q.id < r.id)))
def okNo (cols : List Int) (l : List R) (k : Nat) : Bool := match l[k]? with | some r => okAt cols (prevAt l k) r | none => true
def rowsOk (cols : List Int) (l : List R) : Bool := colsOk cols && (decide (l.length ≤ 12) && (List.range l.length).all (okNo cols l))
theorem okNo_of {cols : List Int} {l : List R} {k : Nat} {y : R} (h : l[k]? = some y) : okNo cols l k = okAt cols (prevAt l k) y := by simp [okNo, h]
theorem rows_no {cols : List Int} {l : List R} {k : Nat} {y : R} (h : l[k]? = some y) (h1 : okAt cols (prevAt l k) y = false) : rowsOk cols l = false := by
  have hk : k < l.length := (List.getElem?_eq_some_iff.1 h).1
  have h2 : (List.range l.length).all (okNo cols l) = false := by
    rw [List.all_eq_false]
    exact ⟨k, by simpa using hk, by rw [okNo_of h, h1]; simp⟩
  simp [rowsOk, h2]
theorem rows_step {cols : List Int} {l : List R} {k : Nat} {y : R} (h : l[k]? = some y) (h1 : okAt cols (prevAt l k) y = true) (ha : (List.range k).all (okNo cols l) = true) : (List.range (k + 1)).all (okNo cols l) = true := by
  rw [List.range_succ, List.all_append, ha]
  simp [okNo_of h, h1]
theorem rows_end {cols : List Int} {l : List R} (h : (List.range l.length).all (okNo cols l) = true) : rowsOk cols l = (colsOk cols && decide (l.length ≤ 12)) := by simp [rowsOk, h]
theorem prevAt_zero (l : List R) : prevAt l 0 = none := rfl
theorem prevAt_succ (l : List R) (j : Nat) : prevAt l (j + 1) = l[j]? := by simp [prevAt]

set_option maxRecDepth 20000 in
set_option maxHeartbeats 4000000 in
theorem spec_RowsOk (cols : List Int) (cv : Value) (l : List R) (x : Value) (w : World) {l1 h1 lo hi : Nat} (hc : RdI w l1 h1 cv cols) (hh1 : h1 ≤ w.heap.size) (hx : RdR w lo hi x l) (hhi : hi ≤ w.heap.size) (hs : RsOk l) :
    Calls Tryz.prog 57 #[cv, x] w fun e w' => e = .returned (.bool (rowsOk cols l)) ∧ Below w.heap.size w w' := by
  obtain ⟨A, c, rfl, hl, hl2⟩ := hx.form
  have Hs := Lib.hid hs
  clear hs
  go_enter Tryz.func57, Tryz.ntmps57
  go_wp2_with fail
  go_loopw [5] (fun i wr => ∃ k : Nat, i = .int .i64 k ∧ k ≤ l.length ∧ (List.range k).all (okNo cols l) = true ∧ Below w.heap.size w wr) (fun i _ => l.length - (intOf i).toNat)
  case atStart => exact ⟨0, rfl, by omega, by simp, Below.refl _ _⟩
  case round =>
    obtain ⟨k, rfl, hk, hall, hb⟩ := hrel
    have Hall := Lib.hid hall
    have hbs := hb.size
    have hcw := hc.below hb hh1
    clear hall
    by_cases hkl : k < l.length
    · obtain ⟨b, off, y, sv, rfl, -, hbl, hyk, e0, e1, hr⟩ := (hx.below hb hhi).at hkl
      have HN := Lib.hid (fun h => rows_no (cols := cols) hyk h)
      have HY := Lib.hid (fun h => rows_step (cols := cols) hyk h Hall.out)
      have hsy := Hs.out y (mem_of_get hyk)
      have hC := Lib.hid (fun W (h : Below wr.heap.size wr W) => spec_RowOk cols cv y sv W (hcw.below h (by omega)) (Nat.le_trans (by omega) h.size) (hr.below h (by omega)) (Nat.le_trans (by omega) h.size) hsy)
      clear hyk hr hsy
      cases hro : rowOk cols y
      · have H := Lib.hid (HN.out (by simp [okAt, hro]))
        rw [hro] at hC
        go_wp2_with fail
        have q_0 := cell_regrown (w := wr) e0
        have q_1 := cell_regrown (w := wr) e1
        refine wp_region_quiet_below (by kernel_rfl) (by kernel_rfl) ?_
        repeat (go_big_quiet_step (first | (go_at_call 111; exact Calls.regrown_of (hC.out _ (below_regrown _ _ _)))))
        refine wpQuiet_nil ?_
        intro wq hw'
        obtain ⟨⟨dq, osq⟩, hw''⟩ := hw'
        have hbq := below_regrown wr dq osq
        rw [← hw''] at hbq
        clear hw''
        clear q_0 q_1
        go_wp2_with fail
        go_ret
        exact ⟨ret_bool H.out.symm, hb.trans (hbq.mono hb.size)⟩
      rw [hro] at hC
      by_cases hid : y.id ≤ 1000000000
      · have hd : decide (1000000000 < y.id) = false := decide_eq_false (by omega)
        rcases Nat.eq_zero_or_pos k with rfl | hk0
        · have Ht := Lib.hid (HY.out (by simp [okAt, hro, hid, prevAt_zero]))
          simp only [Nat.zero_mul, Nat.add_zero] at e0 e1
          go_wp2_with fail
          have q_0 := cell_regrown (w := wr) e0
          have q_1 := cell_regrown (w := wr) e1
          refine wp_region_quiet_below (by kernel_rfl) (by kernel_rfl) ?_
          repeat (go_big_quiet_step (first | (go_at_call 111; exact Calls.regrown_of (hC.out _ (below_regrown _ _ _)))))
          refine wpQuiet_nil ?_
          intro wq hw'
          obtain ⟨⟨dq, osq⟩, hw''⟩ := hw'
          have hbq := below_regrown wr dq osq
          rw [← hw''] at hbq
          clear hw''
          clear q_0 q_1
          go_wp2_with fail
          have hbw := hb.trans (hbq.mono hb.size)
          go_roundw
          case rel => exact ⟨0 + 1, by go_num, by omega, Ht.out, hbw⟩
          case measure => simp [intOf]; omega
        · obtain ⟨j, rfl⟩ : ∃ j, k = j + 1 := ⟨k - 1, by omega⟩
          obtain ⟨b', off', y', sv', hA, -, hbl', hyk', p0, p1, -⟩ := (hx.below hb hhi).at (show j < l.length by omega)
          injection hA with hA
          injection hA with hA1 hA2
          subst hA1 hA2
          have hj : ((j + 1 : Nat) : Int) - 1 = (j : Int) := by omega
          by_cases hp : y'.id < y.id
          · have hd2 : decide (y.id ≤ y'.id) = false := decide_eq_false (by omega)
            have Ht := Lib.hid (HY.out (by simp [okAt, hro, hid, prevAt_succ, hyk', hp]))
            clear hyk'
            go_wp2_with fail
            have q_0 := cell_regrown (w := wr) e0
            have q_1 := cell_regrown (w := wr) e1
            have q_2 := cell_regrown (w := wr) p0
            refine wp_region_quiet_below (by kernel_rfl) (by kernel_rfl) ?_
            repeat (go_big_quiet_step (first | (go_at_call 111; exact Calls.regrown_of (hC.out _ (below_regrown _ _ _)))))
            refine wpQuiet_nil ?_
            intro wq hw'
            obtain ⟨⟨dq, osq⟩, hw''⟩ := hw'
            have hbq := below_regrown wr dq osq
            rw [← hw''] at hbq
            clear hw''
            clear q_0 q_1 q_2
            go_wp2_with fail
            have hbw := hb.trans (hbq.mono hb.size)
            go_roundw
            case rel => exact ⟨j + 1 + 1, by go_num, by omega, Ht.out, hbw⟩
            case measure => simp [intOf]; omega
          · have hd2 : decide (y.id ≤ y'.id) = true := decide_eq_true (by omega)
            have H := Lib.hid (HN.out (by simp [okAt, hro, hid, prevAt_succ, hyk', hp]))
            clear hyk'
            go_wp2_with fail
            have q_0 := cell_regrown (w := wr) e0
            have q_1 := cell_regrown (w := wr) e1
            have q_2 := cell_regrown (w := wr) p0
            refine wp_region_quiet_below (by kernel_rfl) (by kernel_rfl) ?_
            repeat (go_big_quiet_step (first | (go_at_call 111; exact Calls.regrown_of (hC.out _ (below_regrown _ _ _)))))
            refine wpQuiet_nil ?_
            intro wq hw'
            obtain ⟨⟨dq, osq⟩, hw''⟩ := hw'
            have hbq := below_regrown wr dq osq
            rw [← hw''] at hbq
            clear hw''
            clear q_0 q_1 q_2
            go_wp2_with fail
            go_ret
            exact ⟨ret_bool H.out.symm, hb.trans (hbq.mono hb.size)⟩
      · have hd : decide (1000000000 < y.id) = true := decide_eq_true (by omega)
        have H := Lib.hid (HN.out (by simp [okAt, hid]))
        go_wp2_with fail
        have q_0 := cell_regrown (w := wr) e0
        have q_1 := cell_regrown (w := wr) e1
        refine wp_region_quiet_below (by kernel_rfl) (by kernel_rfl) ?_
        repeat (go_big_quiet_step (first | (go_at_call 111; exact Calls.regrown_of (hC.out _ (below_regrown _ _ _)))))
        refine wpQuiet_nil ?_
        intro wq hw'
        obtain ⟨⟨dq, osq⟩, hw''⟩ := hw'
        have hbq := below_regrown wr dq osq
        rw [← hw''] at hbq
        clear hw''
        clear q_0 q_1
        go_wp2_with fail
        go_ret
        exact ⟨ret_bool H.out.symm, hb.trans (hbq.mono hb.size)⟩
    · have H := Lib.hid (rows_end (cols := cols) (l := l) (by have h := Hall.out; rwa [show k = l.length by omega] at h))
      go_wp2_with fail
      refine (spec_ColsOk cols cv _ hcw (by omega)).mono ?_
      rintro e w1 ⟨rfl, rfl⟩
      cases hco : colsOk cols
      · rw [hco] at H
        go_wp2_with fail
        go_ret
        exact ⟨ret_bool (by rw [H.out]; rfl), hb⟩
      · rw [hco] at H
        go_wp2_with fail
        go_ret
        exact ⟨ret_bool (by rw [H.out, Bool.true_and]; exact decide_eq_decide.2 (by omega)), hb⟩
set_option maxRecDepth 20000 in
set_option maxHeartbeats 4000000 in
theorem impl_RowsOk (cols : List Int) (cv : Value) (l : List R) (x : Value) (w : World) {l1 h1 lo hi : Nat} (hc : RdI w l1 h1 cv cols) (hh1 : h1 ≤ w.heap.size) (hx : RdR w lo hi x l) (hhi : hi ≤ w.heap.size) (hs : RsOk l) :
    Calls Tryz.prog 56 #[cv, x] w fun e w' => e = .returned (.bool (rowsOk cols l)) ∧ Below w.heap.size w w' := by
  obtain ⟨A, c, rfl, hl, hl2⟩ := hx.form
  have Hs := Lib.hid hs
  clear hs
  cases hco : colsOk cols
  · have H := Lib.hid (show rowsOk cols l = false by simp [rowsOk, hco])
    go_enter Tryz.func56, Tryz.ntmps56
    go_wp2_with fail
    refine (impl_ColsOk cols cv _ hc (by omega)).mono ?_
    rintro e w1 ⟨rfl, rfl⟩
    rw [hco]
    go_wp2_with fail
    go_ret
    exact ⟨ret_bool H.out.symm, Below.refl _ _⟩
  by_cases hlen : l.length ≤ 12
  · have hd12 : decide ((12 : Int) < (l.length : Int)) = false := decide_eq_false (by omega)
    go_enter Tryz.func56, Tryz.ntmps56
    go_wp2_with fail
    refine (impl_ColsOk cols cv _ hc (by omega)).mono ?_
    rintro e w1 ⟨rfl, rfl⟩
    have Hco := Lib.hid hco
    rw [hco]
    clear hco
    go_wp2_with fail
    go_loopw [17] (fun i wr => ∃ k : Nat, i = .int .i64 k ∧ k ≤ l.length ∧ (List.range k).all (okNo cols l) = true ∧ Below w.heap.size w wr) (fun i _ => l.length - (intOf i).toNat)
    case atStart => exact ⟨0, rfl, by omega, by simp, Below.refl _ _⟩
    case round =>
      obtain ⟨k, rfl, hk, hall, hb⟩ := hrel
      have Hall := Lib.hid hall
      have hbs := hb.size
      have hcw := hc.below hb hh1
      clear hall
      by_cases hkl : k < l.length
      · obtain ⟨b, off, y, sv, rfl, -, hbl, hyk, e0, e1, hr⟩ := (hx.below hb hhi).at hkl
        have HN := Lib.hid (fun h => rows_no (cols := cols) hyk h)
        have HY := Lib.hid (fun h => rows_step (cols := cols) hyk h Hall.out)
        have hsy := Hs.out y (mem_of_get hyk)
        obtain ⟨As, cs, rfl, -, -⟩ := hr.form
        have hup := up_a1 wr (.cells #[.int .i64 y.id, .slice As y.l.length cs] 70)
        have n0 := box_new wr #[.int .i64 y.id, .slice As y.l.length cs] 70 0
        have n1 := box_new wr #[.int .i64 y.id, .slice As y.l.length cs] 70 1
        simp only [List.getElem?_toArray, List.getElem?_cons_zero, List.getElem?_cons_succ] at n0 n1
        have hC := Lib.hid (fun W (h : Below (wr.alloc (.cells #[.int .i64 y.id, .slice As y.l.length cs] 70)).heap.size (wr.alloc (.cells #[.int .i64 y.id, .slice As y.l.length cs] 70)) W) => impl_RowOk cols cv y (.slice As y.l.length cs) W (hcw.below (below_a1 h) (by omega)) (Nat.le_trans (by omega) (below_a1 h).size) (hr.below (below_a1 h) (by omega)) (Nat.le_trans (by omega) (below_a1 h).size) hsy)
        have Hup := Lib.hid hup
        clear hyk hr hsy hup
        cases hro : rowOk cols y
        · have H := Lib.hid (HN.out (by simp [okAt, hro]))
          rw [hro] at hC
          go_wp2_with fail
          have q_0 := cell_regrown (w := (wr.alloc (.cells #[.int .i64 y.id, .slice As y.l.length cs] 70))) n0
          have q_1 := cell_regrown (w := (wr.alloc (.cells #[.int .i64 y.id, .slice As y.l.length cs] 70))) n1
          refine wp_region_quiet_below (by kernel_rfl) (by kernel_rfl) ?_
          repeat (go_big_quiet_step (first | (go_at_call 110; exact Calls.regrown_of (hC.out _ (below_regrown _ _ _)))))
          refine wpQuiet_nil ?_
          intro wq hw'
          obtain ⟨⟨dq, osq⟩, hw''⟩ := hw'
          have hbq := below_regrown (wr.alloc (.cells #[.int .i64 y.id, .slice As y.l.length cs] 70)) dq osq
          rw [← hw''] at hbq
          clear hw''
          clear q_0 q_1
          go_wp2_with fail
          go_ret
          exact ⟨ret_bool H.out.symm, hb.trans ((below_a1 hbq).mono hb.size)⟩
        rw [hro] at hC
        by_cases hid : y.id ≤ 1000000000
        · have hd : decide (1000000000 < y.id) = false := decide_eq_false (by omega)
          rcases Nat.eq_zero_or_pos k with rfl | hk0
          · have Ht := Lib.hid (HY.out (by simp [okAt, hro, hid, prevAt_zero]))
            simp only [Nat.zero_mul, Nat.add_zero] at e0 e1
            go_wp2_with fail
            have q_0 := cell_regrown (w := (wr.alloc (.cells #[.int .i64 y.id, .slice As y.l.length cs] 70))) n0
            have q_1 := cell_regrown (w := (wr.alloc (.cells #[.int .i64 y.id, .slice As y.l.length cs] 70))) n1
            refine wp_region_quiet_below (by kernel_rfl) (by kernel_rfl) ?_
            repeat (go_big_quiet_step (first | (go_at_call 110; exact Calls.regrown_of (hC.out _ (below_regrown _ _ _)))))
            refine wpQuiet_nil ?_
            intro wq hw'
            obtain ⟨⟨dq, osq⟩, hw''⟩ := hw'
            have hbq := below_regrown (wr.alloc (.cells #[.int .i64 y.id, .slice As y.l.length cs] 70)) dq osq
            rw [← hw''] at hbq
            clear hw''
            clear q_0 q_1
            go_wp2_with fail
            have hbw := hb.trans ((below_a1 hbq).mono hb.size)
            go_roundw
            case rel => exact ⟨0 + 1, by go_num, by omega, Ht.out, hbw⟩
            case measure => simp [intOf]; omega
          · obtain ⟨j, rfl⟩ : ∃ j, k = j + 1 := ⟨k - 1, by omega⟩
            obtain ⟨b', off', y', sv', hA, -, hbl', hyk', p0, p1, -⟩ := (hx.below hb hhi).at (show j < l.length by omega)
            injection hA with hA
            injection hA with hA1 hA2
            subst hA1 hA2
            have p0n := (Hup.out.cell (p := ⟨b, off + j * 2, none⟩) (show b < wr.heap.size by omega)).trans p0
            have hj : ((j + 1 : Nat) : Int) - 1 = (j : Int) := by omega
            by_cases hp : y'.id < y.id
            · have hd2 : decide (y.id ≤ y'.id) = false := decide_eq_false (by omega)
              have Ht := Lib.hid (HY.out (by simp [okAt, hro, hid, prevAt_succ, hyk', hp]))
              clear hyk'
              go_wp2_with fail
              have q_0 := cell_regrown (w := (wr.alloc (.cells #[.int .i64 y.id, .slice As y.l.length cs] 70))) n0
              have q_1 := cell_regrown (w := (wr.alloc (.cells #[.int .i64 y.id, .slice As y.l.length cs] 70))) n1
              have q_2 := cell_regrown (w := (wr.alloc (.cells #[.int .i64 y.id, .slice As y.l.length cs] 70))) p0n
              refine wp_region_quiet_below (by kernel_rfl) (by kernel_rfl) ?_
              repeat (go_big_quiet_step (first | (go_at_call 110; exact Calls.regrown_of (hC.out _ (below_regrown _ _ _)))))
              refine wpQuiet_nil ?_
              intro wq hw'
              obtain ⟨⟨dq, osq⟩, hw''⟩ := hw'
              have hbq := below_regrown (wr.alloc (.cells #[.int .i64 y.id, .slice As y.l.length cs] 70)) dq osq
              rw [← hw''] at hbq
              clear hw''
              clear q_0 q_1 q_2
              go_wp2_with fail
              have hbw := hb.trans ((below_a1 hbq).mono hb.size)
              go_roundw
              case rel => exact ⟨j + 1 + 1, by go_num, by omega, Ht.out, hbw⟩
              case measure => simp [intOf]; omega
            · have hd2 : decide (y.id ≤ y'.id) = true := decide_eq_true (by omega)
              have H := Lib.hid (HN.out (by simp [okAt, hro, hid, prevAt_succ, hyk', hp]))
              clear hyk'
              go_wp2_with fail
              have q_0 := cell_regrown (w := (wr.alloc (.cells #[.int .i64 y.id, .slice As y.l.length cs] 70))) n0
              have q_1 := cell_regrown (w := (wr.alloc (.cells #[.int .i64 y.id, .slice As y.l.length cs] 70))) n1
              have q_2 := cell_regrown (w := (wr.alloc (.cells #[.int .i64 y.id, .slice As y.l.length cs] 70))) p0n
              refine wp_region_quiet_below (by kernel_rfl) (by kernel_rfl) ?_
              repeat (go_big_quiet_step (first | (go_at_call 110; exact Calls.regrown_of (hC.out _ (below_regrown _ _ _)))))
              refine wpQuiet_nil ?_
              intro wq hw'
              obtain ⟨⟨dq, osq⟩, hw''⟩ := hw'
              have hbq := below_regrown (wr.alloc (.cells #[.int .i64 y.id, .slice As y.l.length cs] 70)) dq osq
              rw [← hw''] at hbq
              clear hw''
              clear q_0 q_1 q_2
              go_wp2_with fail
              go_ret
              exact ⟨ret_bool H.out.symm, hb.trans ((below_a1 hbq).mono hb.size)⟩
        · have hd : decide (1000000000 < y.id) = true := decide_eq_true (by omega)
          have H := Lib.hid (HN.out (by simp [okAt, hid]))
          go_wp2_with fail
          have q_0 := cell_regrown (w := (wr.alloc (.cells #[.int .i64 y.id, .slice As y.l.length cs] 70))) n0
          have q_1 := cell_regrown (w := (wr.alloc (.cells #[.int .i64 y.id, .slice As y.l.length cs] 70))) n1
          refine wp_region_quiet_below (by kernel_rfl) (by kernel_rfl) ?_
          repeat (go_big_quiet_step (first | (go_at_call 110; exact Calls.regrown_of (hC.out _ (below_regrown _ _ _)))))
          refine wpQuiet_nil ?_
          intro wq hw'
          obtain ⟨⟨dq, osq⟩, hw''⟩ := hw'
          have hbq := below_regrown (wr.alloc (.cells #[.int .i64 y.id, .slice As y.l.length cs] 70)) dq osq
          rw [← hw''] at hbq
          clear hw''
          clear q_0 q_1
          go_wp2_with fail
          go_ret
          exact ⟨ret_bool H.out.symm, hb.trans ((below_a1 hbq).mono hb.size)⟩
      · have H := Lib.hid (show rowsOk cols l = true by
          rw [rows_end (cols := cols) (l := l) (by have h := Hall.out; rwa [show k = l.length by omega] at h), Hco.out]
          simp [hlen])
        go_wp2_with fail
        go_ret
        exact ⟨ret_bool H.out.symm, hb⟩
  · have hd12 : decide ((12 : Int) < (l.length : Int)) = true := decide_eq_true (by omega)
    have H := Lib.hid (show rowsOk cols l = false by simp [rowsOk, hlen])
    go_enter Tryz.func56, Tryz.ntmps56
    go_wp2_with fail
    refine (impl_ColsOk cols cv _ hc (by omega)).mono ?_
    rintro e w1 ⟨rfl, rfl⟩
    rw [hco]
    go_wp2_with fail
    go_ret
    exact ⟨ret_bool H.out.symm, Below.refl _ _⟩
end Go.Proofs.YticimccfeohpcaaGreat
