/- Predicates that hold for rows (the program): contracts. -/
import Derived.Test.YtidmlfjolhnnfaaGreatDoorS30
import Derived.Test.YtidmlfjolhnnfaaGreatDoorXL
namespace Go.Proofs.YtidmlfjolhnnfaaGreatDoor
open Go.Sort Go.ChangeShapes Go.WideShapes Go.ChangeAt Go.RowKit Go.Lb

set_option maxRecDepth 20000 in
set_option maxHeartbeats 8000000 in
theorem impl_Holds_n : ∀ (N : Nat) (p : P), SizeOf.sizeOf p < N → ∀ (sv : Value) (l : List V) (lv : Value) (w : World) (lo hi l1 h1 : Nat), RdP w lo hi sv p.l → hi ≤ w.heap.size → RdV w l1 h1 lv l → h1 ≤ w.heap.size →
    Calls Tryz.prog 38 #[.agg #[.int .i64 p.kind, .int .i64 p.col, .int .i64 p.op, .int .i64 p.v.ty, .int .i64 p.v.n, .string p.v.s, sv], lv] w fun e w' => e = .returned (.bool (holdsP l p)) ∧ Below w.heap.size w w'
  | 0, _, h => absurd h (Nat.not_lt_zero _)
  | N + 1, p, hN => by
    have IH := Lib.hid (impl_Holds_n N)
    intro sv l lv w lo hi l1 h1 hx hhi hv hh1
    obtain ⟨A, c, rfl, hl, hl2⟩ := hx.form
    obtain ⟨A', c', rfl, hl', hl2'⟩ := hv.form
    have HE := Lib.hid (holdsP_eq l p)
    have hb0 := Lib.hid (up_a1 w (.cells #[.int .i64 p.kind, .int .i64 p.col, .int .i64 p.op, .int .i64 p.v.ty, .int .i64 p.v.n, .string p.v.s, .slice A p.l.length c] 28))
    by_cases k1 : p.kind = 1
    · have H := Lib.hid (show holdsP l p = true by rw [HE.out, if_pos k1])
      have d1 : (p.kind == 1) = true := by simp [k1]
      clear k1
      go_enter Tryz.func38, Tryz.ntmps38
      go_wp2_with fail
      go_ret
      exact ⟨ret_bool H.out.symm, hb0.out⟩
    have d1 : (p.kind == 1) = false := by simp [k1]
    by_cases k2 : p.kind = 2
    · have H := Lib.hid (show holdsP l p = cmpAt l p.col p.op p.v by rw [HE.out, if_neg k1, if_pos k2])
      have d2 : (p.kind == 2) = true := by simp [k2]
      clear k1 k2
      have n1 := box_new w #[.int .i64 p.kind, .int .i64 p.col, .int .i64 p.op, .int .i64 p.v.ty, .int .i64 p.v.n, .string p.v.s, .slice A p.l.length c] 28 1
      have n2 := box_new w #[.int .i64 p.kind, .int .i64 p.col, .int .i64 p.op, .int .i64 p.v.ty, .int .i64 p.v.n, .string p.v.s, .slice A p.l.length c] 28 2
      have n3 := box_new w #[.int .i64 p.kind, .int .i64 p.col, .int .i64 p.op, .int .i64 p.v.ty, .int .i64 p.v.n, .string p.v.s, .slice A p.l.length c] 28 3
      have n4 := box_new w #[.int .i64 p.kind, .int .i64 p.col, .int .i64 p.op, .int .i64 p.v.ty, .int .i64 p.v.n, .string p.v.s, .slice A p.l.length c] 28 4
      have n5 := box_new w #[.int .i64 p.kind, .int .i64 p.col, .int .i64 p.op, .int .i64 p.v.ty, .int .i64 p.v.n, .string p.v.s, .slice A p.l.length c] 28 5
      simp only [List.getElem?_toArray, List.getElem?_cons_zero, List.getElem?_cons_succ] at n1 n2 n3 n4 n5
      generalize hcol : p.col = col at *
      cases hI : inR col 0 ((l.length : Int) - 1)
      · have H := Lib.hid (H.out.trans (cmpAt_out hI))
        rcases inR_no hI with h | h
        · have g0 : decide (0 ≤ col) = false := decide_eq_false (by omega)
          clear hI h
          go_enter Tryz.func38, Tryz.ntmps38
          go_wp2_with fail
          have q_0 := cell_regrown (w := (w.alloc (.cells #[.int .i64 p.kind, .int .i64 col, .int .i64 p.op, .int .i64 p.v.ty, .int .i64 p.v.n, .string p.v.s, .slice A p.l.length c] 28))) n1
          refine wp_region_quiet_below (by kernel_rfl) (by kernel_rfl) ?_
          repeat (go_big_quiet_step (fail))
          refine wpQuiet_nil ?_
          intro wq hw'
          obtain ⟨⟨dq, osq⟩, hw''⟩ := hw'
          have hbq := below_regrown (w.alloc (.cells #[.int .i64 p.kind, .int .i64 col, .int .i64 p.op, .int .i64 p.v.ty, .int .i64 p.v.n, .string p.v.s, .slice A p.l.length c] 28)) dq osq
          rw [← hw''] at hbq
          clear hw''
          clear q_0
          go_wp2_with fail
          go_ret
          exact ⟨ret_bool H.out.symm, below_a1 hbq⟩
        · by_cases g0 : 0 ≤ col
          · have g1 : decide (col < (l.length : Int)) = false := decide_eq_false (by omega)
            replace g0 := decide_eq_true g0
            clear hI h
            go_enter Tryz.func38, Tryz.ntmps38
            go_wp2_with fail
            have q_0 := cell_regrown (w := (w.alloc (.cells #[.int .i64 p.kind, .int .i64 col, .int .i64 p.op, .int .i64 p.v.ty, .int .i64 p.v.n, .string p.v.s, .slice A p.l.length c] 28))) n1
            refine wp_region_quiet_below (by kernel_rfl) (by kernel_rfl) ?_
            repeat (go_big_quiet_step (fail))
            refine wpQuiet_nil ?_
            intro wq hw'
            obtain ⟨⟨dq, osq⟩, hw''⟩ := hw'
            have hbq := below_regrown (w.alloc (.cells #[.int .i64 p.kind, .int .i64 col, .int .i64 p.op, .int .i64 p.v.ty, .int .i64 p.v.n, .string p.v.s, .slice A p.l.length c] 28)) dq osq
            rw [← hw''] at hbq
            clear hw''
            clear q_0
            go_wp2_with fail
            go_ret
            exact ⟨ret_bool H.out.symm, below_a1 hbq⟩
          · omega
      · obtain ⟨j0, j1⟩ := inR_yes hI
        obtain ⟨j, rfl⟩ : ∃ j : Nat, col = (j : Int) := ⟨col.toNat, by omega⟩
        have hjl : j < l.length := by omega
        obtain ⟨b, off, x, rfl, -, hbl, hxk, e0, e1, e2⟩ := (hv.below hb0.out hh1).at hjl
        have H := Lib.hid (H.out.trans (cmpAt_in hxk))
        clear hxk j0 j1 hI
        go_enter Tryz.func38, Tryz.ntmps38
        go_wp2_with fail
        have q_0 := cell_regrown (w := (w.alloc (.cells #[.int .i64 p.kind, .int .i64 (j : Int), .int .i64 p.op, .int .i64 p.v.ty, .int .i64 p.v.n, .string p.v.s, .slice A p.l.length c] 28))) n1
        have q_1 := cell_regrown (w := (w.alloc (.cells #[.int .i64 p.kind, .int .i64 (j : Int), .int .i64 p.op, .int .i64 p.v.ty, .int .i64 p.v.n, .string p.v.s, .slice A p.l.length c] 28))) n2
        have q_2 := cell_regrown (w := (w.alloc (.cells #[.int .i64 p.kind, .int .i64 (j : Int), .int .i64 p.op, .int .i64 p.v.ty, .int .i64 p.v.n, .string p.v.s, .slice A p.l.length c] 28))) n3
        have q_3 := cell_regrown (w := (w.alloc (.cells #[.int .i64 p.kind, .int .i64 (j : Int), .int .i64 p.op, .int .i64 p.v.ty, .int .i64 p.v.n, .string p.v.s, .slice A p.l.length c] 28))) n4
        have q_4 := cell_regrown (w := (w.alloc (.cells #[.int .i64 p.kind, .int .i64 (j : Int), .int .i64 p.op, .int .i64 p.v.ty, .int .i64 p.v.n, .string p.v.s, .slice A p.l.length c] 28))) n5
        have q_5 := cell_regrown (w := (w.alloc (.cells #[.int .i64 p.kind, .int .i64 (j : Int), .int .i64 p.op, .int .i64 p.v.ty, .int .i64 p.v.n, .string p.v.s, .slice A p.l.length c] 28))) e0
        have q_6 := cell_regrown (w := (w.alloc (.cells #[.int .i64 p.kind, .int .i64 (j : Int), .int .i64 p.op, .int .i64 p.v.ty, .int .i64 p.v.n, .string p.v.s, .slice A p.l.length c] 28))) e1
        have q_7 := cell_regrown (w := (w.alloc (.cells #[.int .i64 p.kind, .int .i64 (j : Int), .int .i64 p.op, .int .i64 p.v.ty, .int .i64 p.v.n, .string p.v.s, .slice A p.l.length c] 28))) e2
        refine wp_region_quiet_below (by kernel_rfl) (by kernel_rfl) ?_
        repeat (go_big_quiet_step (first | (go_at_call 57; exact Calls.regrown_of (impl_Holds1 p.op x p.v _))))
        refine wpQuiet_nil ?_
        intro wq hw'
        obtain ⟨⟨dq, osq⟩, hw''⟩ := hw'
        have hbq := below_regrown (w.alloc (.cells #[.int .i64 p.kind, .int .i64 (j : Int), .int .i64 p.op, .int .i64 p.v.ty, .int .i64 p.v.n, .string p.v.s, .slice A p.l.length c] 28)) dq osq
        rw [← hw''] at hbq
        clear hw''
        clear q_0 q_1 q_2 q_3 q_4 q_5 q_6 q_7
        go_wp2_with fail
        go_ret
        exact ⟨ret_bool H.out.symm, below_a1 hbq⟩
    have d2 : (p.kind == 2) = false := by simp [k2]
    by_cases k3 : p.kind = 3
    · have H := Lib.hid (show holdsP l p = p.l.all (holdsP l) by rw [HE.out, if_neg k1, if_neg k2, if_pos k3])
      have d3 : (p.kind == 3) = true := by simp [k3]
      clear k1 k2 k3
      go_enter Tryz.func38, Tryz.ntmps38
      go_wp2_with fail
      go_loopw [42] (fun i wr => ∃ k : Nat, i = .int .i64 k ∧ k ≤ p.l.length ∧ (p.l.take k).all (holdsP l) = true ∧ Below w.heap.size w wr) (fun i _ => p.l.length - (intOf i).toNat)
      case atStart => exact ⟨0, rfl, by omega, by simp, hb0.out⟩
      case round =>
        obtain ⟨k, rfl, hk, hall, hb⟩ := hrel
        have Hall := Lib.hid hall
        clear hall
        by_cases hkl : k < p.l.length
        · obtain ⟨b, off, x, sx, rfl, -, hbl, hxk, hat, hr⟩ := (hx.below hb hhi).at hkl
          obtain ⟨e0, e1, e2, e3, e4, e5, e6⟩ := hat
          have hlt := P.get_lt hxk
          have HN := Lib.hid (fun h => all_no (f := holdsP l) hxk h)
          have HY := Lib.hid (fun h => all_step (f := holdsP l) hxk Hall.out h)
          obtain ⟨As, cs, rfl, -, -⟩ := hr.form
          have hbs := hb.size
          have up := up_a1 wr (.cells #[.int .i64 x.kind, .int .i64 x.col, .int .i64 x.op, .int .i64 x.v.ty, .int .i64 x.v.n, .string x.v.s, .slice As x.l.length cs] 28)
          have hC := Lib.hid (IH.out x (by omega) (.slice As x.l.length cs) l _ (wr.alloc (.cells #[.int .i64 x.kind, .int .i64 x.col, .int .i64 x.op, .int .i64 x.v.ty, .int .i64 x.v.n, .string x.v.s, .slice As x.l.length cs] 28)) lo hi l1 h1 (hr.below up (by omega)) (by simp only [World.size_alloc]; omega) ((hv.below hb hh1).below up (by omega)) (by simp only [World.size_alloc]; omega))
          clear up
          clear hxk hr
          cases hh : holdsP l x
          · rw [hh] at hC
            have HN := Lib.hid (HN.out hh)
            go_wp2_with fail
            refine hC.out.mono ?_
            rintro e w1 ⟨rfl, hb1⟩
            go_wp2_with fail
            go_ret
            exact ⟨ret_bool (by rw [H.out, HN.out]), hb.trans ((below_a1 hb1).mono hb.size)⟩
          · rw [hh] at hC
            have HY := Lib.hid (HY.out hh)
            go_wp2_with fail
            refine hC.out.mono ?_
            rintro e w1 ⟨rfl, hb1⟩
            go_wp2_with fail
            go_roundw
            case rel => exact ⟨k + 1, by go_num, by omega, HY.out, hb.trans ((below_a1 hb1).mono hb.size)⟩
            case measure => simp [intOf]; omega
        · obtain rfl : k = p.l.length := by omega
          have HY := Lib.hid (all_end Hall.out)
          go_wp2_with fail
          go_ret
          exact ⟨ret_bool (by rw [H.out, HY.out]), hb⟩
    have d3 : (p.kind == 3) = false := by simp [k3]
    by_cases k4 : p.kind = 4
    · have H := Lib.hid (show holdsP l p = p.l.any (holdsP l) by rw [HE.out, if_neg k1, if_neg k2, if_neg k3, if_pos k4])
      have d4 : (p.kind == 4) = true := by simp [k4]
      clear k1 k2 k3 k4
      go_enter Tryz.func38, Tryz.ntmps38
      go_wp2_with fail
      go_loopw [56] (fun i wr => ∃ k : Nat, i = .int .i64 k ∧ k ≤ p.l.length ∧ (p.l.take k).any (holdsP l) = false ∧ Below w.heap.size w wr) (fun i _ => p.l.length - (intOf i).toNat)
      case atStart => exact ⟨0, rfl, by omega, by simp, hb0.out⟩
      case round =>
        obtain ⟨k, rfl, hk, hall, hb⟩ := hrel
        have Hall := Lib.hid hall
        clear hall
        by_cases hkl : k < p.l.length
        · obtain ⟨b, off, x, sx, rfl, -, hbl, hxk, hat, hr⟩ := (hx.below hb hhi).at hkl
          obtain ⟨e0, e1, e2, e3, e4, e5, e6⟩ := hat
          have hlt := P.get_lt hxk
          have HN := Lib.hid (fun h => any_yes (f := holdsP l) hxk h)
          have HY := Lib.hid (fun h => any_step (f := holdsP l) hxk Hall.out h)
          obtain ⟨As, cs, rfl, -, -⟩ := hr.form
          have hbs := hb.size
          have up := up_a1 wr (.cells #[.int .i64 x.kind, .int .i64 x.col, .int .i64 x.op, .int .i64 x.v.ty, .int .i64 x.v.n, .string x.v.s, .slice As x.l.length cs] 28)
          have hC := Lib.hid (IH.out x (by omega) (.slice As x.l.length cs) l _ (wr.alloc (.cells #[.int .i64 x.kind, .int .i64 x.col, .int .i64 x.op, .int .i64 x.v.ty, .int .i64 x.v.n, .string x.v.s, .slice As x.l.length cs] 28)) lo hi l1 h1 (hr.below up (by omega)) (by simp only [World.size_alloc]; omega) ((hv.below hb hh1).below up (by omega)) (by simp only [World.size_alloc]; omega))
          clear up
          clear hxk hr
          cases hh : holdsP l x
          · rw [hh] at hC
            have HY := Lib.hid (HY.out hh)
            go_wp2_with fail
            refine hC.out.mono ?_
            rintro e w1 ⟨rfl, hb1⟩
            go_wp2_with fail
            go_roundw
            case rel => exact ⟨k + 1, by go_num, by omega, HY.out, hb.trans ((below_a1 hb1).mono hb.size)⟩
            case measure => simp [intOf]; omega
          · rw [hh] at hC
            have HN := Lib.hid (HN.out hh)
            go_wp2_with fail
            refine hC.out.mono ?_
            rintro e w1 ⟨rfl, hb1⟩
            go_wp2_with fail
            go_ret
            exact ⟨ret_bool (by rw [H.out, HN.out]), hb.trans ((below_a1 hb1).mono hb.size)⟩
        · obtain rfl : k = p.l.length := by omega
          have HY := Lib.hid (any_end Hall.out)
          go_wp2_with fail
          go_ret
          exact ⟨ret_bool (by rw [H.out, HY.out]), hb⟩
    have d4 : (p.kind == 4) = false := by simp [k4]
    by_cases k5 : p.kind = 5
    · have H := Lib.hid (show holdsP l p = notH l p.l by rw [HE.out, if_neg k1, if_neg k2, if_neg k3, if_neg k4, if_pos k5])
      have d5 : (p.kind == 5) = true := by simp [k5]
      clear k1 k2 k3 k4 k5
      by_cases hl0 : p.l.length = 0
      · have hz0 : ((p.l.length : Int) == 0) = true := by simp; simpa using hl0
        have H := Lib.hid (show holdsP l p = true by rw [H.out, List.eq_nil_of_length_eq_zero hl0, notH])
        clear hl0
        go_enter Tryz.func38, Tryz.ntmps38
        go_wp2_with fail
        go_ret
        exact ⟨ret_bool H.out.symm, hb0.out⟩
      · have hz0 : ((p.l.length : Int) == 0) = false := by simp; intro h; exact hl0 (by simp [h])
        have hpos : 0 < p.l.length := by omega
        obtain ⟨b, off, x, sx, rfl, -, hbl, hxk, hat, hr⟩ := (hx.below hb0.out hhi).at hpos
        have hlt := P.get_lt hxk
        have H := Lib.hid (show holdsP l p = !holdsP l x by
          rw [H.out]
          generalize p.l = ps at hxk
          cases ps with
          | nil => simp at hxk
          | cons y r => simp at hxk; subst hxk; rw [notH])
        obtain ⟨e0, e1, e2, e3, e4, e5, e6⟩ := hat
        simp only [Nat.zero_mul, Nat.add_zero] at e0 e1 e2 e3 e4 e5 e6
        have hC := Lib.hid (IH.out x (by omega) sx l _ _ lo hi l1 h1 hr (Nat.le_trans hhi hb0.out.size) (hv.below hb0.out hh1) (Nat.le_trans hh1 hb0.out.size))
        clear hxk hr hl0
        go_enter Tryz.func38, Tryz.ntmps38
        go_wp2_with fail
        refine hC.out.mono ?_
        rintro e w1 ⟨rfl, hb1⟩
        go_wp2_with fail
        go_ret
        exact ⟨ret_bool H.out.symm, below_a1 hb1⟩
    · have H := Lib.hid (show holdsP l p = false by rw [HE.out, if_neg k1, if_neg k2, if_neg k3, if_neg k4, if_neg k5])
      have d5 : (p.kind == 5) = false := by simp [k5]
      clear k1 k2 k3 k4 k5
      go_enter Tryz.func38, Tryz.ntmps38
      go_wp2_with fail
      go_ret
      exact ⟨ret_bool H.out.symm, hb0.out⟩
theorem spec_Holds (p : P) (sv : Value) (l : List V) (lv : Value) (w : World) {lo hi l1 h1 : Nat} (hx : RdP w lo hi sv p.l) (hhi : hi ≤ w.heap.size) (hv : RdV w l1 h1 lv l) (hh1 : h1 ≤ w.heap.size) :
    Calls Tryz.prog 47 #[.agg #[.int .i64 p.kind, .int .i64 p.col, .int .i64 p.op, .int .i64 p.v.ty, .int .i64 p.v.n, .string p.v.s, sv], lv] w fun e w' => e = .returned (.bool (holdsP l p)) ∧ Below w.heap.size w w' :=
  spec_Holds_n _ p (Nat.lt_succ_self _) sv l lv w lo hi l1 h1 hx hhi hv hh1
theorem impl_Holds (p : P) (sv : Value) (l : List V) (lv : Value) (w : World) {lo hi l1 h1 : Nat} (hx : RdP w lo hi sv p.l) (hhi : hi ≤ w.heap.size) (hv : RdV w l1 h1 lv l) (hh1 : h1 ≤ w.heap.size) :
    Calls Tryz.prog 38 #[.agg #[.int .i64 p.kind, .int .i64 p.col, .int .i64 p.op, .int .i64 p.v.ty, .int .i64 p.v.n, .string p.v.s, sv], lv] w fun e w' => e = .returned (.bool (holdsP l p)) ∧ Below w.heap.size w w' :=
  impl_Holds_n _ p (Nat.lt_succ_self _) sv l lv w lo hi l1 h1 hx hhi hv hh1
end Go.Proofs.YtidmlfjolhnnfaaGreatDoor
namespace Go.Proofs.YtidmlfjolhnnfaaGreatDoor
open Go.Sort Go.ChangeShapes Go.WideShapes Go.ChangeAt Go.RowKit Go.Lb

def meant (q : Q) (l : List R) : List R := l.filter fun r => holdsP r.l q.p
theorem meant_step {l : List R} {q : Q} {k : Nat} {y : R} (h : l[k]? = some y) : (l.take (k + 1)).filter (fun r => holdsP r.l q.p) = (l.take k).filter (fun r => holdsP r.l q.p) ++ (if holdsP y.l q.p then [y] else []) := by
  rw [take_of_get h, List.filter_append]
  congr 1
  cases hh : holdsP y.l q.p <;> simp [hh]
theorem lens_filter (l : List R) (p : R → Bool) : lensR (l.filter p) ≤ lensR l := by
  unfold lensR
  induction l with
  | nil => simp
  | cons a r ih =>
    rw [List.filter_cons]
    split
    · simp only [List.map_cons, List.sum_cons]; omega
    · simp only [List.map_cons, List.sum_cons]; omega
theorem meant_len (q : Q) (l : List R) : (meant q l).length ≤ l.length := List.length_filter_le _ _
theorem meant_lens (q : Q) (l : List R) : lensR (meant q l) ≤ lensR l := lens_filter _ _
theorem meant_bd (q : Q) (l : List R) : cntR (meant q l) ≤ cntR l := by
  rw [cntR_eq, cntR_eq]
  have h1 := meant_lens q l
  have h2 := meant_len q l
  omega
set_option maxRecDepth 20000 in
set_option maxHeartbeats 2000000 in
theorem spec_Meant (q : Q) (sv ov : Value) (l : List R) (x : Value) (w : World) {l1 h1 l2 h2 lo hi : Nat} (hp : RdP w l1 h1 sv q.p.l) (hh1 : h1 ≤ w.heap.size) (ho : RdI w l2 h2 ov q.out) (_hh2 : h2 ≤ w.heap.size) (hx : RdR w lo hi x l) (hhi : hi ≤ w.heap.size) (hn : l.length ≤ 1048576 ∧ lensR l ≤ 1048576) :
    Calls Tryz.prog 25 #[.agg #[.int .i64 q.kind, .int .i64 q.p.kind, .int .i64 q.p.col, .int .i64 q.p.op, .int .i64 q.p.v.ty, .int .i64 q.p.v.n, .string q.p.v.s, sv, .int .i64 q.col, ov], x] w fun e w' => ∃ v, e = .returned v ∧ OwnR 51 25 w' w.heap.size w'.heap.size v (meant q l) ∧ Below w.heap.size w w' := by
  obtain ⟨A, c, rfl, hl, hl2⟩ := hx.form
  obtain ⟨Ap, cp, rfl, -, -⟩ := hp.form
  obtain ⟨Ao, co, rfl, -, -⟩ := ho.form
  obtain ⟨i0, hif, hz0, hz1, hz2⟩ := info_parts info_Row
  have hif := Lib.hid hif
  have hz0 := Lib.hid hz0
  have hz1 := Lib.hid hz1
  have hz2 := Lib.hid hz2
  have hn1 := hn.1
  have Hn := Lib.hid hn.2
  clear hn ho
  have own0 := World.ownsRow_made (w.alloc (.cells #[.int .i64 q.kind, .int .i64 q.p.kind, .int .i64 q.p.col, .int .i64 q.p.op, .int .i64 q.p.v.ty, .int .i64 q.p.v.n, .string q.p.v.s, .slice Ap q.p.l.length cp, .int .i64 q.col, .slice Ao q.out.length co] 31)) (base := w.heap.size + 1) (e := 51) (size := 2) #[] 0 (by simp) (by decide) rfl
  simp only [World.size_alloc] at own0
  go_enter Tryz.func25, Tryz.ntmps25
  go_wp2_with fail
  go_loopw [5, 6] (fun o i wr => ∃ (k : Nat) (ps : List (R × Value)), i = .int .i64 k ∧ k ≤ l.length ∧ ps.length ≤ k ∧ ps.map Prod.fst = (l.take k).filter (fun r => holdsP r.l q.p) ∧ OwnRp 51 25 wr (w.heap.size + 1) wr.heap.size o ps ∧ wr.heap[w.heap.size]? = some (.cells #[.int .i64 q.kind, .int .i64 q.p.kind, .int .i64 q.p.col, .int .i64 q.p.op, .int .i64 q.p.v.ty, .int .i64 q.p.v.n, .string q.p.v.s, .slice Ap q.p.l.length cp, .int .i64 q.col, .slice Ao q.out.length co] 31) ∧ Below w.heap.size w wr) (fun _ i _ => l.length - (intOf i).toNat)
  case atStart => exact ⟨0, [], rfl, by omega, by simp, by simp, OwnRp.nil own0 (fun g hg => by simp [Value.ownBlock] at hg; simp; omega), (Below.heap_alloc _ _ _ (by simp)).trans (heap_alloc_new w _), up_a2 _ _ _⟩
  case round =>
    obtain ⟨k, ps, rfl, hk, hpl, hps, hown, hc, hb⟩ := hrel
    have Hps := Lib.hid hps
    have Hown := Lib.hid hown
    have hg : w.heap.size < wr.heap.size := (Array.getElem?_eq_some_iff.1 hc).1
    have q1 := cell_of_row wr _ 1 _ _ _ hc
    have q2 := cell_of_row wr _ 2 _ _ _ hc
    have q3 := cell_of_row wr _ 3 _ _ _ hc
    have q4 := cell_of_row wr _ 4 _ _ _ hc
    have q5 := cell_of_row wr _ 5 _ _ _ hc
    have q6 := cell_of_row wr _ 6 _ _ _ hc
    have q7 := cell_of_row wr _ 7 _ _ _ hc
    simp only [List.getElem?_toArray, List.getElem?_cons_zero, List.getElem?_cons_succ] at q1 q2 q3 q4 q5 q6 q7
    have Hc := Lib.hid hc
    clear hps hown hc
    by_cases hkl : k < l.length
    · obtain ⟨b, off, y, sv', rfl, -, hbl, hyk, e0, e1, hr⟩ := (hx.below hb hhi).at hkl
      obtain ⟨As, cs, rfl, -, -⟩ := hr.form
      have Hy := Lib.hid (meant_step (q := q) hyk)
      have hyl : y.l.length ≤ 1048576 := Nat.le_trans (len_of_lens (mem_of_get hyk)) Hn.out
      have hbs := hb.size
      have hH := Lib.hid (fun (W : World) (h : Below wr.heap.size wr W) => spec_Holds q.p (.slice Ap q.p.l.length cp) y.l (.slice As y.l.length cs) W ((hp.below hb hh1).below h (by omega)) (Nat.le_trans (by omega) h.size) (hr.below h (by omega)) (Nat.le_trans (by omega) h.size))
      have Hr := Lib.hid hr
      clear hyk hr
      cases hh : holdsP y.l q.p
      · rw [hh] at hH
        have Hy := Lib.hid (by have h := Hy.out; rw [hh] at h; exact h)
        go_wp2_with fail
        have q_0 := cell_regrown (w := wr) q1
        have q_1 := cell_regrown (w := wr) q2
        have q_2 := cell_regrown (w := wr) q3
        have q_3 := cell_regrown (w := wr) q4
        have q_4 := cell_regrown (w := wr) q5
        have q_5 := cell_regrown (w := wr) q6
        have q_6 := cell_regrown (w := wr) q7
        have q_7 := cell_regrown (w := wr) e1
        refine wp_region_quiet_below (by kernel_rfl) (by kernel_rfl) ?_
        repeat (go_big_quiet_step (first | (go_at_call 47; exact Calls.regrown_of (hH.out _ (below_regrown _ _ _)))))
        refine wpQuiet_nil ?_
        intro wq hw'
        obtain ⟨⟨dq, osq⟩, hw''⟩ := hw'
        have hbq := below_regrown wr dq osq
        rw [← hw''] at hbq
        clear hw''
        clear q_0 q_1 q_2 q_3 q_4 q_5 q_6 q_7
        go_wp2_with fail
        go_roundw
        case rel => exact ⟨k + 1, ps, by go_num, by omega, by omega, by rw [Hps.out, Hy.out]; simp, Hown.out.imp (fun g _ h => hbq.block g h) (Nat.le_refl _) hbq.size, (hbq.block _ hg).trans Hc.out, hb.trans (hbq.mono hb.size)⟩
        case measure => simp [intOf]; omega
      · rw [hh] at hH
        have Hy := Lib.hid (by have h := Hy.out; rw [hh] at h; exact h)
        have E0 := Lib.hid e0
        have E1 := Lib.hid e1
        go_wp2_with fail
        have q_0 := cell_regrown (w := wr) q1
        have q_1 := cell_regrown (w := wr) q2
        have q_2 := cell_regrown (w := wr) q3
        have q_3 := cell_regrown (w := wr) q4
        have q_4 := cell_regrown (w := wr) q5
        have q_5 := cell_regrown (w := wr) q6
        have q_6 := cell_regrown (w := wr) q7
        have q_7 := cell_regrown (w := wr) e1
        refine wp_region_quiet_below (by kernel_rfl) (by kernel_rfl) ?_
        repeat (go_big_quiet_step (first | (go_at_call 47; exact Calls.regrown_of (hH.out _ (below_regrown _ _ _)))))
        refine wpQuiet_nil ?_
        intro wq hw'
        obtain ⟨⟨dq, osq⟩, hw''⟩ := hw'
        have hbq := below_regrown wr dq osq
        rw [← hw''] at hbq
        clear hw''
        clear q_0 q_1 q_2 q_3 q_4 q_5 q_6 q_7
        have hqs := hbq.size
        have e0 := (hbq.cell (p := ⟨b, off + k * 2, none⟩) (show b < wr.heap.size by omega)).trans E0.out
        have e1 := (hbq.cell (p := ⟨b, off + k * 2 + 1, none⟩) (show b < wr.heap.size by omega)).trans E1.out
        have hr := Hr.out.below hbq (by omega)
        have HownQ := Lib.hid (Hown.out.imp (fun g _ h => hbq.block g h) (Nat.le_refl _) hbq.size)
        have HcQ := Lib.hid ((hbq.block _ hg).trans Hc.out)
        have HbQ := Lib.hid (hb.trans (hbq.mono hb.size))
        clear hbq q1 q2 q3 q4 q5 q6 q7
        go_wp2_with fail
        refine (spec_l4Copy y (.slice As y.l.length cs) _ hr (by omega) (by omega)).mono ?_
        rintro e w1 ⟨v, rfl, hown1, hb1⟩
        obtain ⟨As', cs', rfl, -, -, -⟩ := hown1.cells
        have up2 := up_a2 w1 (.cells #[.int .i64 y.id, .slice As' y.l.length cs'] 51) (.cells #[.int .i64 y.id, .slice As' y.l.length cs'] 51)
        have Hin := Lib.hid (hown1.below up2 (Nat.le_refl _))
        have hout := owns_below (owns_base HownQ.out.out fun g hg => (HownQ.out.outIn g hg).1) hb1
        have hs1 := hb1.size
        have Hb1 := Lib.hid (hb1.trans (up2.mono hs1))
        have hnew := heap_alloc_new (w1.alloc (.cells #[.int .i64 y.id, .slice As' y.l.length cs'] 51)) (.cells #[.int .i64 y.id, .slice As' y.l.length cs'] 51)
        simp only [World.size_alloc] at hnew
        have Hnew := Lib.hid hnew
        clear hown1 hr e0 e1 hb1 up2 hnew
        go_wp2_with (at_builtin; refine wpl_app rfl _ _ 32 rfl (w.heap.size + 1) 51 i0 _ 2 32 Tryz.underlying32 hif.out hz0.out hz1.out hz2.out rfl (by decide) (by decide) ((hout.alloc _).alloc _) rfl Hnew.out rfl rfl (by simp [Value.oneCell']) (by omega) (by simp; omega) ?_)
        intro v' w3 hown' hgrow hnb
        have hrow := fun g hg => (hout.lt g hg).1
        have hb2 := HbQ.out.trans (Hb1.out.mono HbQ.out.size)
        have hb3 := Below.grown hb2 hgrow (fun g hg => by have := hrow g hg; omega) (Nat.le_refl _)
        have hsn := Lib.hid (HownQ.out.snoc Hb1.out (by omega) Hin.out (by simp <;> omega) hown' hgrow (by simpa [Nat.add_assoc] using hnb))
        have Hc3 := Lib.hid ((hgrow.block w.heap.size (by simp; omega) (fun e => by have := hrow _ e.symm; omega)).trans ((Hb1.out.block w.heap.size (by omega)).trans HcQ.out))
        clear hown' hgrow hnb hout
        go_wp2_with fail
        go_roundw
        case rel => exact ⟨k + 1, _, by go_num, by omega, by simp; omega, by rw [List.map_append, Hps.out, Hy.out]; rfl, hsn.out, Hc3.out, hb3⟩
        case measure => simp [intOf]; omega
    · go_wp2_with fail
      go_ret
      obtain rfl : k = l.length := by omega
      have hp := Hps.out
      rw [List.take_length] at hp
      exact ⟨_, rfl, OwnR.more (lo := w.heap.size + 1) ⟨ps, hp, Hown.out⟩ (by omega) (Nat.le_refl _), hb⟩
set_option maxRecDepth 20000 in
set_option maxHeartbeats 2000000 in
theorem impl_Meant (q : Q) (sv ov : Value) (l : List R) (x : Value) (w : World) {l1 h1 l2 h2 lo hi : Nat} (hp : RdP w l1 h1 sv q.p.l) (hh1 : h1 ≤ w.heap.size) (ho : RdI w l2 h2 ov q.out) (_hh2 : h2 ≤ w.heap.size) (hx : RdR w lo hi x l) (hhi : hi ≤ w.heap.size) (hn : l.length ≤ 1048576 ∧ lensR l ≤ 1048576) :
    Calls Tryz.prog 18 #[.agg #[.int .i64 q.kind, .int .i64 q.p.kind, .int .i64 q.p.col, .int .i64 q.p.op, .int .i64 q.p.v.ty, .int .i64 q.p.v.n, .string q.p.v.s, sv, .int .i64 q.col, ov], x] w fun e w' => ∃ v, e = .returned v ∧ OwnR 51 25 w' w.heap.size w'.heap.size v (meant q l) ∧ Below w.heap.size w w' := by
  obtain ⟨A, c, rfl, hl, hl2⟩ := hx.form
  obtain ⟨Ap, cp, rfl, -, -⟩ := hp.form
  obtain ⟨Ao, co, rfl, -, -⟩ := ho.form
  obtain ⟨i0, hif, hz0, hz1, hz2⟩ := info_parts info_Row
  have hif := Lib.hid hif
  have hz0 := Lib.hid hz0
  have hz1 := Lib.hid hz1
  have hz2 := Lib.hid hz2
  have hn1 := hn.1
  have Hn := Lib.hid hn.2
  clear hn ho
  have own0 := World.ownsRow_made (w.alloc (.cells #[.int .i64 q.kind, .int .i64 q.p.kind, .int .i64 q.p.col, .int .i64 q.p.op, .int .i64 q.p.v.ty, .int .i64 q.p.v.n, .string q.p.v.s, .slice Ap q.p.l.length cp, .int .i64 q.col, .slice Ao q.out.length co] 31)) (base := w.heap.size + 1) (e := 51) (size := 2) #[] 0 (by simp) (by decide) rfl
  simp only [World.size_alloc] at own0
  go_enter Tryz.func18, Tryz.ntmps18
  go_wp2_with fail
  go_loopw [5, 11] (fun o i wr => ∃ (k : Nat) (ps : List (R × Value)), i = .int .i64 k ∧ k ≤ l.length ∧ ps.length ≤ k ∧ ps.map Prod.fst = (l.take k).filter (fun r => holdsP r.l q.p) ∧ OwnRp 51 25 wr (w.heap.size + 1) wr.heap.size o ps ∧ wr.heap[w.heap.size]? = some (.cells #[.int .i64 q.kind, .int .i64 q.p.kind, .int .i64 q.p.col, .int .i64 q.p.op, .int .i64 q.p.v.ty, .int .i64 q.p.v.n, .string q.p.v.s, .slice Ap q.p.l.length cp, .int .i64 q.col, .slice Ao q.out.length co] 31) ∧ Below w.heap.size w wr) (fun _ i _ => l.length - (intOf i).toNat)
  case atStart => exact ⟨0, [], rfl, by omega, by simp, by simp, OwnRp.nil own0 (fun g hg => by simp [Value.ownBlock] at hg; simp; omega), (Below.heap_alloc _ _ _ (by simp)).trans (heap_alloc_new w _), up_a2 _ _ _⟩
  case round =>
    obtain ⟨k, ps, rfl, hk, hpl, hps, hown, hc, hb⟩ := hrel
    have Hps := Lib.hid hps
    have Hown := Lib.hid hown
    have hg : w.heap.size < wr.heap.size := (Array.getElem?_eq_some_iff.1 hc).1
    have q1 := cell_of_row wr _ 1 _ _ _ hc
    have q2 := cell_of_row wr _ 2 _ _ _ hc
    have q3 := cell_of_row wr _ 3 _ _ _ hc
    have q4 := cell_of_row wr _ 4 _ _ _ hc
    have q5 := cell_of_row wr _ 5 _ _ _ hc
    have q6 := cell_of_row wr _ 6 _ _ _ hc
    have q7 := cell_of_row wr _ 7 _ _ _ hc
    simp only [List.getElem?_toArray, List.getElem?_cons_zero, List.getElem?_cons_succ] at q1 q2 q3 q4 q5 q6 q7
    have Hc := Lib.hid hc
    clear hps hown hc
    by_cases hkl : k < l.length
    · obtain ⟨b, off, y, sv', rfl, -, hbl, hyk, e0, e1, hr⟩ := (hx.below hb hhi).at hkl
      obtain ⟨As, cs, rfl, -, -⟩ := hr.form
      have Hy := Lib.hid (meant_step (q := q) hyk)
      have hyl : y.l.length ≤ 1048576 := Nat.le_trans (len_of_lens (mem_of_get hyk)) Hn.out
      have hbs := hb.size
      have up := up_a1 wr (.cells #[.int .i64 y.id, .slice As y.l.length cs] 51)
      have hH := Lib.hid (impl_Holds q.p (.slice Ap q.p.l.length cp) y.l (.slice As y.l.length cs) (wr.alloc (.cells #[.int .i64 y.id, .slice As y.l.length cs] 51)) ((hp.below hb hh1).below up (by omega)) (by simp only [World.size_alloc]; omega) (hr.below up (by omega)) (by simp only [World.size_alloc]; omega))
      have n0 := box_new wr #[.int .i64 y.id, .slice As y.l.length cs] 51 0
      have n1 := box_new wr #[.int .i64 y.id, .slice As y.l.length cs] 51 1
      simp only [List.getElem?_toArray, List.getElem?_cons_zero, List.getElem?_cons_succ] at n0 n1
      have N0 := Lib.hid n0
      have N1 := Lib.hid n1
      have hr1 := Lib.hid (hr.below up (by omega))
      have Up := Lib.hid up
      clear hyk hr up n0 n1
      cases hh : holdsP y.l q.p
      · rw [hh] at hH
        have Hy := Lib.hid (by have h := Hy.out; rw [hh] at h; exact h)
        go_wp2_with fail
        refine hH.out.mono ?_
        rintro e w0 ⟨rfl, hb0⟩
        have hbq := below_a1 hb0
        go_wp2_with fail
        go_roundw
        case rel => exact ⟨k + 1, ps, by go_num, by omega, by omega, by rw [Hps.out, Hy.out]; simp, Hown.out.imp (fun g _ h => hbq.block g h) (Nat.le_refl _) hbq.size, (hbq.block _ hg).trans Hc.out, hb.trans (hbq.mono hb.size)⟩
        case measure => simp [intOf]; omega
      · rw [hh] at hH
        have Hy := Lib.hid (by have h := Hy.out; rw [hh] at h; exact h)
        go_wp2_with fail
        refine hH.out.mono ?_
        rintro e wq ⟨rfl, hb0⟩
        have hs0 := hb0.size
        simp only [World.size_alloc] at hs0
        have e0' := (hb0.cell (p := ⟨wr.heap.size, 0, none⟩) (by simp)).trans N0.out
        have e1' := (hb0.cell (p := ⟨wr.heap.size, 1, none⟩) (by simp)).trans N1.out
        have hr2 := hr1.out.below hb0 (by simp only [World.size_alloc]; omega)
        have hbq := below_a1 hb0
        have HownQ := Lib.hid (Hown.out.imp (fun g _ h => hbq.block g h) (Nat.le_refl _) hbq.size)
        have HcQ := Lib.hid ((hbq.block _ hg).trans Hc.out)
        have HbQ := Lib.hid (hb.trans (hbq.mono hb.size))
        clear hbq hb0 q1 q2 q3 q4 q5 q6 q7 e0 e1 hH
        go_wp2_with fail
        refine (impl_cloneRow y (.slice As y.l.length cs) _ hr2 (by omega) (by omega)).mono ?_
        rintro e w1 ⟨v, rfl, hown1, hb1⟩
        obtain ⟨As', cs', rfl, -, -, -⟩ := hown1.cells
        have Hin := Lib.hid (hown1.below (up_a1 w1 (.cells #[.int .i64 y.id, .slice As' y.l.length cs'] 51)) (Nat.le_refl _))
        have hout := owns_below (owns_base HownQ.out.out fun g hg => (HownQ.out.outIn g hg).1) hb1
        have hs1 := hb1.size
        have Hb1 := Lib.hid hb1
        clear hown1 hr2 e0' e1' hb1
        go_wp2_with (at_builtin; refine wpl_app rfl _ _ 32 rfl (w.heap.size + 1) 51 i0 _ 2 32 Tryz.underlying32 hif.out hz0.out hz1.out hz2.out rfl (by decide) (by decide) (hout.alloc _) rfl (heap_alloc_new _ _) rfl rfl (by simp [Value.oneCell']) (by omega) (by simp; omega) ?_)
        intro v' w3 hown' hgrow hnb
        have hrow := fun g hg => (hout.lt g hg).1
        have hb2 := HbQ.out.trans (Hb1.out.mono HbQ.out.size)
        have hb3 := Below.grown (hb2.alloc hb2.size _) hgrow (fun g hg => by have := hrow g hg; omega) (Nat.le_refl _)
        have hsn := Lib.hid (HownQ.out.snoc ((Below.refl _ _).trans Hb1.out |>.alloc hs1 _) (by omega) Hin.out (by simp) hown' hgrow (by simpa using hnb))
        have Hc3 := Lib.hid ((hgrow.block w.heap.size (by simp; omega) (fun e => by have := hrow _ e.symm; omega)).trans ((Below.heap_alloc w1 _ _ (by omega)).trans ((Hb1.out.block w.heap.size (by omega)).trans HcQ.out)))
        clear hown' hgrow hnb hout
        go_wp2_with fail
        go_roundw
        case rel => exact ⟨k + 1, _, by go_num, by omega, by simp; omega, by rw [List.map_append, Hps.out, Hy.out]; rfl, hsn.out, Hc3.out, hb3⟩
        case measure => simp [intOf]; omega
    · go_wp2_with fail
      go_ret
      obtain rfl : k = l.length := by omega
      have hp := Hps.out
      rw [List.take_length] at hp
      exact ⟨_, rfl, OwnR.more (lo := w.heap.size + 1) ⟨ps, hp, Hown.out⟩ (by omega) (Nat.le_refl _), hb⟩
end Go.Proofs.YtidmlfjolhnnfaaGreatDoor
