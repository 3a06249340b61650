/- Predicates that may hold in zones (the program): contracts. -/
import Derived.Test.YtidmlfjolhnnfaaS32
namespace Go.Proofs.Ytidmlfjolhnnfaa
open Go.Sort Go.ChangeShapes Go.WideShapes Go.ChangeAt Go.RowKit Go.Lb

def impl_MayC (p : P) : Prop := ∀ (sv : Value) (l : List Z) (lv : Value) (w : World) (lo hi l1 h1 : Nat), RdP w lo hi sv p.l → hi ≤ w.heap.size → RdZ w l1 h1 lv l → h1 ≤ w.heap.size →
    Calls Try.prog 22 #[.agg #[.int .i64 p.kind, .int .i64 p.col, .int .i64 p.op, .int .i64 p.v.ty, .int .i64 p.v.n, .string p.v.s, sv], lv] w fun e w' => e = .returned (.bool (mayP l p)) ∧ Below w.heap.size w w'
def impl_NotC (p : P) : Prop := ∀ (sv : Value) (l : List Z) (lv : Value) (w : World) (lo hi l1 h1 : Nat), RdP w lo hi sv p.l → hi ≤ w.heap.size → RdZ w l1 h1 lv l → h1 ≤ w.heap.size →
    Calls Try.prog 46 #[.agg #[.int .i64 p.kind, .int .i64 p.col, .int .i64 p.op, .int .i64 p.v.ty, .int .i64 p.v.n, .string p.v.s, sv], lv] w fun e w' => e = .returned (.bool (failP l p)) ∧ Below w.heap.size w w'
set_option maxRecDepth 20000 in
set_option maxHeartbeats 8000000 in
theorem impl_MayC_s (p : P) (IHm : ∀ (k : Nat) (x : P), p.l[k]? = some x → impl_MayC x) (IHn : ∀ (k : Nat) (x : P), p.l[k]? = some x → impl_NotC x) : impl_MayC p := by
  have IHm := Lib.hid IHm
  have IHn := Lib.hid IHn
  intro sv l lv w lo hi l1 h1 hx hhi hv hh1
  obtain ⟨A, c, rfl, hl, hl2⟩ := hx.form
  obtain ⟨A', c', rfl, hl', hl2'⟩ := hv.form
  have HE := Lib.hid (mayP_eq l p)
  have hb0 := Lib.hid (up_a1 w (.cells #[.int .i64 p.kind, .int .i64 p.col, .int .i64 p.op, .int .i64 p.v.ty, .int .i64 p.v.n, .string p.v.s, .slice A p.l.length c] 28))
  have hw1 := Lib.hid (show IntKind.i64.wrap ((l.length : Int) - 1) = (l.length : Int) - 1 from IntWalk.i64_in _ ⟨by omega, by omega⟩)
  by_cases k1 : p.kind = 1
  · have H := Lib.hid (show mayP l p = true by rw [HE.out, if_pos k1])
    have d1 : (p.kind == 1) = true := by simp [k1]
    have d2 : (p.kind == 2) = false := by simp [k1]
    have d3 : (p.kind == 3) = false := by simp [k1]
    have d4 : (p.kind == 4) = false := by simp [k1]
    have d5 : (p.kind == 5) = false := by simp [k1]
    clear k1
    go_enter Try.func22, Try.ntmps22
    go_wp2_with fail
    go_ret
    exact ⟨ret_bool H.out.symm, hb0.out⟩
  by_cases k2 : p.kind = 2
  · have H := Lib.hid (show mayP l p = mcmpAt l p.col p.op p.v by rw [HE.out, if_neg k1, if_pos k2])
    have d1 : (p.kind == 1) = false := by simp [k2]
    have d2 : (p.kind == 2) = true := by simp [k2]
    have d3 : (p.kind == 3) = false := by simp [k2]
    have d4 : (p.kind == 4) = false := by simp [k2]
    have d5 : (p.kind == 5) = false := by simp [k2]
    clear k1 k2
    have n1 := box_new w #[.int .i64 p.kind, .int .i64 p.col, .int .i64 p.op, .int .i64 p.v.ty, .int .i64 p.v.n, .string p.v.s, .slice A p.l.length c] 28 1
    have n2 := box_new w #[.int .i64 p.kind, .int .i64 p.col, .int .i64 p.op, .int .i64 p.v.ty, .int .i64 p.v.n, .string p.v.s, .slice A p.l.length c] 28 2
    have n3 := box_new w #[.int .i64 p.kind, .int .i64 p.col, .int .i64 p.op, .int .i64 p.v.ty, .int .i64 p.v.n, .string p.v.s, .slice A p.l.length c] 28 3
    have n4 := box_new w #[.int .i64 p.kind, .int .i64 p.col, .int .i64 p.op, .int .i64 p.v.ty, .int .i64 p.v.n, .string p.v.s, .slice A p.l.length c] 28 4
    have n5 := box_new w #[.int .i64 p.kind, .int .i64 p.col, .int .i64 p.op, .int .i64 p.v.ty, .int .i64 p.v.n, .string p.v.s, .slice A p.l.length c] 28 5
    simp only [List.getElem?_toArray, List.getElem?_cons_zero, List.getElem?_cons_succ] at n1 n2 n3 n4 n5
    generalize hcol : p.col = col at *
    cases hI : inR col 0 ((l.length : Int) - 1)
    · have H := Lib.hid (H.out.trans (mcmpAt_out hI))
      rcases inR_no hI with h | h
      · have g0 : decide (0 ≤ col) = false := decide_eq_false (by omega)
        have g2 : decide (col < 0) = true := decide_eq_true (by omega)
        clear hI h
        go_enter Try.func22, Try.ntmps22
        go_wp2_with fail
        have q_0 := cell_regrown (w := (w.alloc (.cells #[.int .i64 p.kind, .int .i64 col, .int .i64 p.op, .int .i64 p.v.ty, .int .i64 p.v.n, .string p.v.s, .slice A p.l.length c] 28))) n1
        refine wp_region_quiet_below (by kernel_rfl) (by kernel_rfl) ?_
        repeat (go_big_quiet_step (fail))
        refine wpQuiet_nil ?_
        intro wq hw'
        obtain ⟨⟨dq, osq⟩, hw''⟩ := hw'
        have hbq := below_regrown (w.alloc (.cells #[.int .i64 p.kind, .int .i64 col, .int .i64 p.op, .int .i64 p.v.ty, .int .i64 p.v.n, .string p.v.s, .slice A p.l.length c] 28)) dq osq
        rw [← hw''] at hbq
        clear hw''
        clear q_0
        go_wp2_with fail
        go_ret
        exact ⟨ret_bool H.out.symm, below_a1 hbq⟩
      · by_cases g0 : 0 ≤ col
        · have g1 : decide (col < (l.length : Int)) = false := decide_eq_false (by omega)
          have g2 : decide (col < 0) = false := decide_eq_false (by omega)
          have g3 : decide ((l.length : Int) ≤ col) = true := decide_eq_true (by omega)
          replace g0 := decide_eq_true g0
          clear hI h
          go_enter Try.func22, Try.ntmps22
          go_wp2_with fail
          have q_0 := cell_regrown (w := (w.alloc (.cells #[.int .i64 p.kind, .int .i64 col, .int .i64 p.op, .int .i64 p.v.ty, .int .i64 p.v.n, .string p.v.s, .slice A p.l.length c] 28))) n1
          refine wp_region_quiet_below (by kernel_rfl) (by kernel_rfl) ?_
          repeat (go_big_quiet_step (fail))
          refine wpQuiet_nil ?_
          intro wq hw'
          obtain ⟨⟨dq, osq⟩, hw''⟩ := hw'
          have hbq := below_regrown (w.alloc (.cells #[.int .i64 p.kind, .int .i64 col, .int .i64 p.op, .int .i64 p.v.ty, .int .i64 p.v.n, .string p.v.s, .slice A p.l.length c] 28)) dq osq
          rw [← hw''] at hbq
          clear hw''
          clear q_0
          go_wp2_with fail
          go_ret
          exact ⟨ret_bool H.out.symm, below_a1 hbq⟩
        · omega
    · obtain ⟨j0, j1⟩ := inR_yes hI
      obtain ⟨j, rfl⟩ : ∃ j : Nat, col = (j : Int) := ⟨col.toNat, by omega⟩
      have hjl : j < l.length := by omega
      have g2 : decide ((j : Int) < 0) = false := decide_eq_false (by omega)
      have g3 : decide ((l.length : Int) ≤ (j : Int)) = false := decide_eq_false (by omega)
      have g4 : decide (l.length ≤ j) = false := decide_eq_false (by omega)
      obtain ⟨b, off, x, rfl, -, hbl, hxk, e0, e1, e2, e3, e4, e5⟩ := (hv.below hb0.out hh1).at hjl
      have H := Lib.hid (H.out.trans (mcmpAt_in hxk))
      have hw1 := hw1.out
      clear hxk j0 j1
      go_enter Try.func22, Try.ntmps22
      go_wp2_with fail
      have q_0 := cell_regrown (w := (w.alloc (.cells #[.int .i64 p.kind, .int .i64 (j : Int), .int .i64 p.op, .int .i64 p.v.ty, .int .i64 p.v.n, .string p.v.s, .slice A p.l.length c] 28))) n1
      have q_1 := cell_regrown (w := (w.alloc (.cells #[.int .i64 p.kind, .int .i64 (j : Int), .int .i64 p.op, .int .i64 p.v.ty, .int .i64 p.v.n, .string p.v.s, .slice A p.l.length c] 28))) n2
      have q_2 := cell_regrown (w := (w.alloc (.cells #[.int .i64 p.kind, .int .i64 (j : Int), .int .i64 p.op, .int .i64 p.v.ty, .int .i64 p.v.n, .string p.v.s, .slice A p.l.length c] 28))) n3
      have q_3 := cell_regrown (w := (w.alloc (.cells #[.int .i64 p.kind, .int .i64 (j : Int), .int .i64 p.op, .int .i64 p.v.ty, .int .i64 p.v.n, .string p.v.s, .slice A p.l.length c] 28))) n4
      have q_4 := cell_regrown (w := (w.alloc (.cells #[.int .i64 p.kind, .int .i64 (j : Int), .int .i64 p.op, .int .i64 p.v.ty, .int .i64 p.v.n, .string p.v.s, .slice A p.l.length c] 28))) n5
      have q_5 := cell_regrown (w := (w.alloc (.cells #[.int .i64 p.kind, .int .i64 (j : Int), .int .i64 p.op, .int .i64 p.v.ty, .int .i64 p.v.n, .string p.v.s, .slice A p.l.length c] 28))) e0
      have q_6 := cell_regrown (w := (w.alloc (.cells #[.int .i64 p.kind, .int .i64 (j : Int), .int .i64 p.op, .int .i64 p.v.ty, .int .i64 p.v.n, .string p.v.s, .slice A p.l.length c] 28))) e1
      have q_7 := cell_regrown (w := (w.alloc (.cells #[.int .i64 p.kind, .int .i64 (j : Int), .int .i64 p.op, .int .i64 p.v.ty, .int .i64 p.v.n, .string p.v.s, .slice A p.l.length c] 28))) e2
      have q_8 := cell_regrown (w := (w.alloc (.cells #[.int .i64 p.kind, .int .i64 (j : Int), .int .i64 p.op, .int .i64 p.v.ty, .int .i64 p.v.n, .string p.v.s, .slice A p.l.length c] 28))) e3
      have q_9 := cell_regrown (w := (w.alloc (.cells #[.int .i64 p.kind, .int .i64 (j : Int), .int .i64 p.op, .int .i64 p.v.ty, .int .i64 p.v.n, .string p.v.s, .slice A p.l.length c] 28))) e4
      have q_10 := cell_regrown (w := (w.alloc (.cells #[.int .i64 p.kind, .int .i64 (j : Int), .int .i64 p.op, .int .i64 p.v.ty, .int .i64 p.v.n, .string p.v.s, .slice A p.l.length c] 28))) e5
      refine wp_region_quiet_below (by kernel_rfl) (by kernel_rfl) ?_
      repeat (go_big_quiet_step (first | (go_at_call 45; exact Calls.regrown_of (impl_MayHold1 p.op x p.v _))))
      refine wpQuiet_nil ?_
      intro wq hw'
      obtain ⟨⟨dq, osq⟩, hw''⟩ := hw'
      have hbq := below_regrown (w.alloc (.cells #[.int .i64 p.kind, .int .i64 (j : Int), .int .i64 p.op, .int .i64 p.v.ty, .int .i64 p.v.n, .string p.v.s, .slice A p.l.length c] 28)) dq osq
      rw [← hw''] at hbq
      clear hw''
      clear q_0 q_1 q_2 q_3 q_4 q_5 q_6 q_7 q_8 q_9 q_10
      go_wp2_with fail
      go_ret
      exact ⟨ret_bool H.out.symm, below_a1 hbq⟩
  by_cases k3 : p.kind = 3
  · have H := Lib.hid (show mayP l p = p.l.all (mayP l) by rw [HE.out, if_neg k1, if_neg k2, if_pos k3])
    have d1 : (p.kind == 1) = false := by simp [k3]
    have d2 : (p.kind == 2) = false := by simp [k3]
    have d3 : (p.kind == 3) = true := by simp [k3]
    have d4 : (p.kind == 4) = false := by simp [k3]
    have d5 : (p.kind == 5) = false := by simp [k3]
    clear k1 k2 k3
    go_enter Try.func22, Try.ntmps22
    go_wp2_with fail
    go_loopw [42] (fun i wr => ∃ k : Nat, i = .int .i64 k ∧ k ≤ p.l.length ∧ (p.l.take k).all (mayP l) = true ∧ Below w.heap.size w wr) (fun i _ => p.l.length - (intOf i).toNat)
    case atStart => exact ⟨0, rfl, by omega, by simp, hb0.out⟩
    case round =>
      obtain ⟨k, rfl, hk, hall, hb⟩ := hrel
      have Hall := Lib.hid hall
      clear hall
      by_cases hkl : k < p.l.length
      · obtain ⟨b, off, x, sx, rfl, -, hbl, hxk, hat, hr⟩ := (hx.below hb hhi).at hkl
        obtain ⟨e0, e1, e2, e3, e4, e5, e6⟩ := hat
        have HN := Lib.hid (fun h => all_no (f := mayP l) hxk h)
        have HY := Lib.hid (fun h => all_step (f := mayP l) hxk Hall.out h)
        obtain ⟨As, cs, rfl, -, -⟩ := hr.form
        have hbs := hb.size
        have up := up_a1 wr (.cells #[.int .i64 x.kind, .int .i64 x.col, .int .i64 x.op, .int .i64 x.v.ty, .int .i64 x.v.n, .string x.v.s, .slice As x.l.length cs] 28)
        have hC := Lib.hid (IHm.out k x hxk (.slice As x.l.length cs) l _ (wr.alloc (.cells #[.int .i64 x.kind, .int .i64 x.col, .int .i64 x.op, .int .i64 x.v.ty, .int .i64 x.v.n, .string x.v.s, .slice As x.l.length cs] 28)) lo hi l1 h1 (hr.below up (by omega)) (by simp only [World.size_alloc]; omega) ((hv.below hb hh1).below up (by omega)) (by simp only [World.size_alloc]; omega))
        clear up
        clear hxk hr
        cases hh : mayP l x
        · rw [hh] at hC
          have HN := Lib.hid (HN.out hh)
          go_wp2_with fail
          refine hC.out.mono ?_
          rintro e w1 ⟨rfl, hb1⟩
          go_wp2_with fail
          go_ret
          exact ⟨ret_bool (by rw [H.out, HN.out]), hb.trans ((below_a1 hb1).mono hb.size)⟩
        · rw [hh] at hC
          have HY := Lib.hid (HY.out hh)
          go_wp2_with fail
          refine hC.out.mono ?_
          rintro e w1 ⟨rfl, hb1⟩
          go_wp2_with fail
          go_roundw
          case rel => exact ⟨k + 1, by go_num, by omega, HY.out, hb.trans ((below_a1 hb1).mono hb.size)⟩
          case measure => simp [intOf]; omega
      · obtain rfl : k = p.l.length := by omega
        have HY := Lib.hid (all_end Hall.out)
        go_wp2_with fail
        go_ret
        exact ⟨ret_bool (by rw [H.out, HY.out]), hb⟩
  by_cases k4 : p.kind = 4
  · have H := Lib.hid (show mayP l p = p.l.any (mayP l) by rw [HE.out, if_neg k1, if_neg k2, if_neg k3, if_pos k4])
    have d1 : (p.kind == 1) = false := by simp [k4]
    have d2 : (p.kind == 2) = false := by simp [k4]
    have d3 : (p.kind == 3) = false := by simp [k4]
    have d4 : (p.kind == 4) = true := by simp [k4]
    have d5 : (p.kind == 5) = false := by simp [k4]
    clear k1 k2 k3 k4
    go_enter Try.func22, Try.ntmps22
    go_wp2_with fail
    go_loopw [56] (fun i wr => ∃ k : Nat, i = .int .i64 k ∧ k ≤ p.l.length ∧ (p.l.take k).any (mayP l) = false ∧ Below w.heap.size w wr) (fun i _ => p.l.length - (intOf i).toNat)
    case atStart => exact ⟨0, rfl, by omega, by simp, hb0.out⟩
    case round =>
      obtain ⟨k, rfl, hk, hall, hb⟩ := hrel
      have Hall := Lib.hid hall
      clear hall
      by_cases hkl : k < p.l.length
      · obtain ⟨b, off, x, sx, rfl, -, hbl, hxk, hat, hr⟩ := (hx.below hb hhi).at hkl
        obtain ⟨e0, e1, e2, e3, e4, e5, e6⟩ := hat
        have HN := Lib.hid (fun h => any_yes (f := mayP l) hxk h)
        have HY := Lib.hid (fun h => any_step (f := mayP l) hxk Hall.out h)
        obtain ⟨As, cs, rfl, -, -⟩ := hr.form
        have hbs := hb.size
        have up := up_a1 wr (.cells #[.int .i64 x.kind, .int .i64 x.col, .int .i64 x.op, .int .i64 x.v.ty, .int .i64 x.v.n, .string x.v.s, .slice As x.l.length cs] 28)
        have hC := Lib.hid (IHm.out k x hxk (.slice As x.l.length cs) l _ (wr.alloc (.cells #[.int .i64 x.kind, .int .i64 x.col, .int .i64 x.op, .int .i64 x.v.ty, .int .i64 x.v.n, .string x.v.s, .slice As x.l.length cs] 28)) lo hi l1 h1 (hr.below up (by omega)) (by simp only [World.size_alloc]; omega) ((hv.below hb hh1).below up (by omega)) (by simp only [World.size_alloc]; omega))
        clear up
        clear hxk hr
        cases hh : mayP l x
        · rw [hh] at hC
          have HY := Lib.hid (HY.out hh)
          go_wp2_with fail
          refine hC.out.mono ?_
          rintro e w1 ⟨rfl, hb1⟩
          go_wp2_with fail
          go_roundw
          case rel => exact ⟨k + 1, by go_num, by omega, HY.out, hb.trans ((below_a1 hb1).mono hb.size)⟩
          case measure => simp [intOf]; omega
        · rw [hh] at hC
          have HN := Lib.hid (HN.out hh)
          go_wp2_with fail
          refine hC.out.mono ?_
          rintro e w1 ⟨rfl, hb1⟩
          go_wp2_with fail
          go_ret
          exact ⟨ret_bool (by rw [H.out, HN.out]), hb.trans ((below_a1 hb1).mono hb.size)⟩
      · obtain rfl : k = p.l.length := by omega
        have HY := Lib.hid (any_end Hall.out)
        go_wp2_with fail
        go_ret
        exact ⟨ret_bool (by rw [H.out, HY.out]), hb⟩
  by_cases k5 : p.kind = 5
  · have H := Lib.hid (show mayP l p = fstP (failP l) p.l by rw [HE.out, if_neg k1, if_neg k2, if_neg k3, if_neg k4, if_pos k5])
    have d1 : (p.kind == 1) = false := by simp [k5]
    have d2 : (p.kind == 2) = false := by simp [k5]
    have d3 : (p.kind == 3) = false := by simp [k5]
    have d4 : (p.kind == 4) = false := by simp [k5]
    have d5 : (p.kind == 5) = true := by simp [k5]
    clear k1 k2 k3 k4 k5
    by_cases hl0 : p.l.length = 0
    · have hz0 : ((p.l.length : Int) == 0) = true := by simp; simpa using hl0
      have H := Lib.hid (show mayP l p = true by rw [H.out, List.eq_nil_of_length_eq_zero hl0]; rfl)
      clear hl0
      go_enter Try.func22, Try.ntmps22
      go_wp2_with fail
      go_ret
      exact ⟨ret_bool H.out.symm, hb0.out⟩
    · have hz0 : ((p.l.length : Int) == 0) = false := by simp; intro h; exact hl0 (by simp [h])
      have hpos : 0 < p.l.length := by omega
      obtain ⟨b, off, x, sx, rfl, -, hbl, hxk, hat, hr⟩ := (hx.below hb0.out hhi).at hpos
      have H := Lib.hid (H.out.trans (fstP_of hxk))
      obtain ⟨e0, e1, e2, e3, e4, e5, e6⟩ := hat
      simp only [Nat.zero_mul, Nat.add_zero] at e0 e1 e2 e3 e4 e5 e6
      have hC := Lib.hid (IHn.out 0 x hxk sx l _ _ lo hi l1 h1 hr (Nat.le_trans hhi hb0.out.size) (hv.below hb0.out hh1) (Nat.le_trans hh1 hb0.out.size))
      clear hxk hr hl0
      go_enter Try.func22, Try.ntmps22
      go_wp2_with fail
      refine hC.out.mono ?_
      rintro e w1 ⟨rfl, hb1⟩
      go_wp2_with fail
      go_ret
      exact ⟨ret_bool H.out.symm, below_a1 hb1⟩
  have H := Lib.hid (show mayP l p = false by rw [HE.out, if_neg k1, if_neg k2, if_neg k3, if_neg k4, if_neg k5])
  have d1 : (p.kind == 1) = false := by simp [k1]
  have d2 : (p.kind == 2) = false := by simp [k2]
  have d3 : (p.kind == 3) = false := by simp [k3]
  have d4 : (p.kind == 4) = false := by simp [k4]
  have d5 : (p.kind == 5) = false := by simp [k5]
  clear k1 k2 k3 k4 k5
  go_enter Try.func22, Try.ntmps22
  go_wp2_with fail
  go_ret
  exact ⟨ret_bool H.out.symm, hb0.out⟩
set_option maxRecDepth 20000 in
set_option maxHeartbeats 8000000 in
theorem impl_NotC_s (p : P) (IHm : ∀ (k : Nat) (x : P), p.l[k]? = some x → impl_MayC x) (IHn : ∀ (k : Nat) (x : P), p.l[k]? = some x → impl_NotC x) : impl_NotC p := by
  have IHm := Lib.hid IHm
  have IHn := Lib.hid IHn
  intro sv l lv w lo hi l1 h1 hx hhi hv hh1
  obtain ⟨A, c, rfl, hl, hl2⟩ := hx.form
  obtain ⟨A', c', rfl, hl', hl2'⟩ := hv.form
  have HE := Lib.hid (failP_eq l p)
  have hb0 := Lib.hid (up_a1 w (.cells #[.int .i64 p.kind, .int .i64 p.col, .int .i64 p.op, .int .i64 p.v.ty, .int .i64 p.v.n, .string p.v.s, .slice A p.l.length c] 28))
  have hw1 := Lib.hid (show IntKind.i64.wrap ((l.length : Int) - 1) = (l.length : Int) - 1 from IntWalk.i64_in _ ⟨by omega, by omega⟩)
  by_cases k1 : p.kind = 1
  · have H := Lib.hid (show failP l p = false by rw [HE.out, if_pos k1])
    have d1 : (p.kind == 1) = true := by simp [k1]
    have d2 : (p.kind == 2) = false := by simp [k1]
    have d3 : (p.kind == 3) = false := by simp [k1]
    have d4 : (p.kind == 4) = false := by simp [k1]
    have d5 : (p.kind == 5) = false := by simp [k1]
    clear k1
    go_enter Try.func46, Try.ntmps46
    go_wp2_with fail
    go_ret
    exact ⟨ret_bool H.out.symm, hb0.out⟩
  by_cases k2 : p.kind = 2
  · have H := Lib.hid (show failP l p = fcmpAt l p.col p.op p.v by rw [HE.out, if_neg k1, if_pos k2])
    have d1 : (p.kind == 1) = false := by simp [k2]
    have d2 : (p.kind == 2) = true := by simp [k2]
    have d3 : (p.kind == 3) = false := by simp [k2]
    have d4 : (p.kind == 4) = false := by simp [k2]
    have d5 : (p.kind == 5) = false := by simp [k2]
    clear k1 k2
    have n1 := box_new w #[.int .i64 p.kind, .int .i64 p.col, .int .i64 p.op, .int .i64 p.v.ty, .int .i64 p.v.n, .string p.v.s, .slice A p.l.length c] 28 1
    have n2 := box_new w #[.int .i64 p.kind, .int .i64 p.col, .int .i64 p.op, .int .i64 p.v.ty, .int .i64 p.v.n, .string p.v.s, .slice A p.l.length c] 28 2
    have n3 := box_new w #[.int .i64 p.kind, .int .i64 p.col, .int .i64 p.op, .int .i64 p.v.ty, .int .i64 p.v.n, .string p.v.s, .slice A p.l.length c] 28 3
    have n4 := box_new w #[.int .i64 p.kind, .int .i64 p.col, .int .i64 p.op, .int .i64 p.v.ty, .int .i64 p.v.n, .string p.v.s, .slice A p.l.length c] 28 4
    have n5 := box_new w #[.int .i64 p.kind, .int .i64 p.col, .int .i64 p.op, .int .i64 p.v.ty, .int .i64 p.v.n, .string p.v.s, .slice A p.l.length c] 28 5
    simp only [List.getElem?_toArray, List.getElem?_cons_zero, List.getElem?_cons_succ] at n1 n2 n3 n4 n5
    generalize hcol : p.col = col at *
    cases hI : inR col 0 ((l.length : Int) - 1)
    · have H := Lib.hid (H.out.trans (fcmpAt_out hI))
      rcases inR_no hI with h | h
      · have g0 : decide (0 ≤ col) = false := decide_eq_false (by omega)
        have g2 : decide (col < 0) = true := decide_eq_true (by omega)
        clear hI h
        go_enter Try.func46, Try.ntmps46
        go_wp2_with fail
        have q_0 := cell_regrown (w := (w.alloc (.cells #[.int .i64 p.kind, .int .i64 col, .int .i64 p.op, .int .i64 p.v.ty, .int .i64 p.v.n, .string p.v.s, .slice A p.l.length c] 28))) n1
        refine wp_region_quiet_below (by kernel_rfl) (by kernel_rfl) ?_
        repeat (go_big_quiet_step (fail))
        refine wpQuiet_nil ?_
        intro wq hw'
        obtain ⟨⟨dq, osq⟩, hw''⟩ := hw'
        have hbq := below_regrown (w.alloc (.cells #[.int .i64 p.kind, .int .i64 col, .int .i64 p.op, .int .i64 p.v.ty, .int .i64 p.v.n, .string p.v.s, .slice A p.l.length c] 28)) dq osq
        rw [← hw''] at hbq
        clear hw''
        clear q_0
        go_wp2_with fail
        go_ret
        exact ⟨ret_bool H.out.symm, below_a1 hbq⟩
      · by_cases g0 : 0 ≤ col
        · have g1 : decide (col < (l.length : Int)) = false := decide_eq_false (by omega)
          have g2 : decide (col < 0) = false := decide_eq_false (by omega)
          have g3 : decide ((l.length : Int) ≤ col) = true := decide_eq_true (by omega)
          replace g0 := decide_eq_true g0
          clear hI h
          go_enter Try.func46, Try.ntmps46
          go_wp2_with fail
          have q_0 := cell_regrown (w := (w.alloc (.cells #[.int .i64 p.kind, .int .i64 col, .int .i64 p.op, .int .i64 p.v.ty, .int .i64 p.v.n, .string p.v.s, .slice A p.l.length c] 28))) n1
          refine wp_region_quiet_below (by kernel_rfl) (by kernel_rfl) ?_
          repeat (go_big_quiet_step (fail))
          refine wpQuiet_nil ?_
          intro wq hw'
          obtain ⟨⟨dq, osq⟩, hw''⟩ := hw'
          have hbq := below_regrown (w.alloc (.cells #[.int .i64 p.kind, .int .i64 col, .int .i64 p.op, .int .i64 p.v.ty, .int .i64 p.v.n, .string p.v.s, .slice A p.l.length c] 28)) dq osq
          rw [← hw''] at hbq
          clear hw''
          clear q_0
          go_wp2_with fail
          go_ret
          exact ⟨ret_bool H.out.symm, below_a1 hbq⟩
        · omega
    · obtain ⟨j0, j1⟩ := inR_yes hI
      obtain ⟨j, rfl⟩ : ∃ j : Nat, col = (j : Int) := ⟨col.toNat, by omega⟩
      have hjl : j < l.length := by omega
      have g2 : decide ((j : Int) < 0) = false := decide_eq_false (by omega)
      have g3 : decide ((l.length : Int) ≤ (j : Int)) = false := decide_eq_false (by omega)
      have g4 : decide (l.length ≤ j) = false := decide_eq_false (by omega)
      obtain ⟨b, off, x, rfl, -, hbl, hxk, e0, e1, e2, e3, e4, e5⟩ := (hv.below hb0.out hh1).at hjl
      have H := Lib.hid (H.out.trans (fcmpAt_in hxk))
      have hw1 := hw1.out
      clear hxk j0 j1
      go_enter Try.func46, Try.ntmps46
      go_wp2_with fail
      have q_0 := cell_regrown (w := (w.alloc (.cells #[.int .i64 p.kind, .int .i64 (j : Int), .int .i64 p.op, .int .i64 p.v.ty, .int .i64 p.v.n, .string p.v.s, .slice A p.l.length c] 28))) n1
      have q_1 := cell_regrown (w := (w.alloc (.cells #[.int .i64 p.kind, .int .i64 (j : Int), .int .i64 p.op, .int .i64 p.v.ty, .int .i64 p.v.n, .string p.v.s, .slice A p.l.length c] 28))) n2
      have q_2 := cell_regrown (w := (w.alloc (.cells #[.int .i64 p.kind, .int .i64 (j : Int), .int .i64 p.op, .int .i64 p.v.ty, .int .i64 p.v.n, .string p.v.s, .slice A p.l.length c] 28))) n3
      have q_3 := cell_regrown (w := (w.alloc (.cells #[.int .i64 p.kind, .int .i64 (j : Int), .int .i64 p.op, .int .i64 p.v.ty, .int .i64 p.v.n, .string p.v.s, .slice A p.l.length c] 28))) n4
      have q_4 := cell_regrown (w := (w.alloc (.cells #[.int .i64 p.kind, .int .i64 (j : Int), .int .i64 p.op, .int .i64 p.v.ty, .int .i64 p.v.n, .string p.v.s, .slice A p.l.length c] 28))) n5
      have q_5 := cell_regrown (w := (w.alloc (.cells #[.int .i64 p.kind, .int .i64 (j : Int), .int .i64 p.op, .int .i64 p.v.ty, .int .i64 p.v.n, .string p.v.s, .slice A p.l.length c] 28))) e0
      have q_6 := cell_regrown (w := (w.alloc (.cells #[.int .i64 p.kind, .int .i64 (j : Int), .int .i64 p.op, .int .i64 p.v.ty, .int .i64 p.v.n, .string p.v.s, .slice A p.l.length c] 28))) e1
      have q_7 := cell_regrown (w := (w.alloc (.cells #[.int .i64 p.kind, .int .i64 (j : Int), .int .i64 p.op, .int .i64 p.v.ty, .int .i64 p.v.n, .string p.v.s, .slice A p.l.length c] 28))) e2
      have q_8 := cell_regrown (w := (w.alloc (.cells #[.int .i64 p.kind, .int .i64 (j : Int), .int .i64 p.op, .int .i64 p.v.ty, .int .i64 p.v.n, .string p.v.s, .slice A p.l.length c] 28))) e3
      have q_9 := cell_regrown (w := (w.alloc (.cells #[.int .i64 p.kind, .int .i64 (j : Int), .int .i64 p.op, .int .i64 p.v.ty, .int .i64 p.v.n, .string p.v.s, .slice A p.l.length c] 28))) e4
      have q_10 := cell_regrown (w := (w.alloc (.cells #[.int .i64 p.kind, .int .i64 (j : Int), .int .i64 p.op, .int .i64 p.v.ty, .int .i64 p.v.n, .string p.v.s, .slice A p.l.length c] 28))) e5
      refine wp_region_quiet_below (by kernel_rfl) (by kernel_rfl) ?_
      repeat (go_big_quiet_step (first | (go_at_call 68; exact Calls.regrown_of (impl_Opposite p.op _)) | (go_at_call 45; exact Calls.regrown_of (impl_MayHold1 (opposite p.op) x p.v _))))
      refine wpQuiet_nil ?_
      intro wq hw'
      obtain ⟨⟨dq, osq⟩, hw''⟩ := hw'
      have hbq := below_regrown (w.alloc (.cells #[.int .i64 p.kind, .int .i64 (j : Int), .int .i64 p.op, .int .i64 p.v.ty, .int .i64 p.v.n, .string p.v.s, .slice A p.l.length c] 28)) dq osq
      rw [← hw''] at hbq
      clear hw''
      clear q_0 q_1 q_2 q_3 q_4 q_5 q_6 q_7 q_8 q_9 q_10
      go_wp2_with fail
      go_ret
      exact ⟨ret_bool H.out.symm, below_a1 hbq⟩
  by_cases k3 : p.kind = 3
  · have H := Lib.hid (show failP l p = p.l.any (failP l) by rw [HE.out, if_neg k1, if_neg k2, if_pos k3])
    have d1 : (p.kind == 1) = false := by simp [k3]
    have d2 : (p.kind == 2) = false := by simp [k3]
    have d3 : (p.kind == 3) = true := by simp [k3]
    have d4 : (p.kind == 4) = false := by simp [k3]
    have d5 : (p.kind == 5) = false := by simp [k3]
    clear k1 k2 k3
    go_enter Try.func46, Try.ntmps46
    go_wp2_with fail
    go_loopw [57] (fun i wr => ∃ k : Nat, i = .int .i64 k ∧ k ≤ p.l.length ∧ (p.l.take k).any (failP l) = false ∧ Below w.heap.size w wr) (fun i _ => p.l.length - (intOf i).toNat)
    case atStart => exact ⟨0, rfl, by omega, by simp, hb0.out⟩
    case round =>
      obtain ⟨k, rfl, hk, hall, hb⟩ := hrel
      have Hall := Lib.hid hall
      clear hall
      by_cases hkl : k < p.l.length
      · obtain ⟨b, off, x, sx, rfl, -, hbl, hxk, hat, hr⟩ := (hx.below hb hhi).at hkl
        obtain ⟨e0, e1, e2, e3, e4, e5, e6⟩ := hat
        have HN := Lib.hid (fun h => any_yes (f := failP l) hxk h)
        have HY := Lib.hid (fun h => any_step (f := failP l) hxk Hall.out h)
        obtain ⟨As, cs, rfl, -, -⟩ := hr.form
        have hbs := hb.size
        have up := up_a1 wr (.cells #[.int .i64 x.kind, .int .i64 x.col, .int .i64 x.op, .int .i64 x.v.ty, .int .i64 x.v.n, .string x.v.s, .slice As x.l.length cs] 28)
        have hC := Lib.hid (IHn.out k x hxk (.slice As x.l.length cs) l _ (wr.alloc (.cells #[.int .i64 x.kind, .int .i64 x.col, .int .i64 x.op, .int .i64 x.v.ty, .int .i64 x.v.n, .string x.v.s, .slice As x.l.length cs] 28)) lo hi l1 h1 (hr.below up (by omega)) (by simp only [World.size_alloc]; omega) ((hv.below hb hh1).below up (by omega)) (by simp only [World.size_alloc]; omega))
        clear up
        clear hxk hr
        cases hh : failP l x
        · rw [hh] at hC
          have HY := Lib.hid (HY.out hh)
          go_wp2_with fail
          refine hC.out.mono ?_
          rintro e w1 ⟨rfl, hb1⟩
          go_wp2_with fail
          go_roundw
          case rel => exact ⟨k + 1, by go_num, by omega, HY.out, hb.trans ((below_a1 hb1).mono hb.size)⟩
          case measure => simp [intOf]; omega
        · rw [hh] at hC
          have HN := Lib.hid (HN.out hh)
          go_wp2_with fail
          refine hC.out.mono ?_
          rintro e w1 ⟨rfl, hb1⟩
          go_wp2_with fail
          go_ret
          exact ⟨ret_bool (by rw [H.out, HN.out]), hb.trans ((below_a1 hb1).mono hb.size)⟩
      · obtain rfl : k = p.l.length := by omega
        have HY := Lib.hid (any_end Hall.out)
        go_wp2_with fail
        go_ret
        exact ⟨ret_bool (by rw [H.out, HY.out]), hb⟩
  by_cases k4 : p.kind = 4
  · have H := Lib.hid (show failP l p = p.l.all (failP l) by rw [HE.out, if_neg k1, if_neg k2, if_neg k3, if_pos k4])
    have d1 : (p.kind == 1) = false := by simp [k4]
    have d2 : (p.kind == 2) = false := by simp [k4]
    have d3 : (p.kind == 3) = false := by simp [k4]
    have d4 : (p.kind == 4) = true := by simp [k4]
    have d5 : (p.kind == 5) = false := by simp [k4]
    clear k1 k2 k3 k4
    go_enter Try.func46, Try.ntmps46
    go_wp2_with fail
    go_loopw [70] (fun i wr => ∃ k : Nat, i = .int .i64 k ∧ k ≤ p.l.length ∧ (p.l.take k).all (failP l) = true ∧ Below w.heap.size w wr) (fun i _ => p.l.length - (intOf i).toNat)
    case atStart => exact ⟨0, rfl, by omega, by simp, hb0.out⟩
    case round =>
      obtain ⟨k, rfl, hk, hall, hb⟩ := hrel
      have Hall := Lib.hid hall
      clear hall
      by_cases hkl : k < p.l.length
      · obtain ⟨b, off, x, sx, rfl, -, hbl, hxk, hat, hr⟩ := (hx.below hb hhi).at hkl
        obtain ⟨e0, e1, e2, e3, e4, e5, e6⟩ := hat
        have HN := Lib.hid (fun h => all_no (f := failP l) hxk h)
        have HY := Lib.hid (fun h => all_step (f := failP l) hxk Hall.out h)
        obtain ⟨As, cs, rfl, -, -⟩ := hr.form
        have hbs := hb.size
        have up := up_a1 wr (.cells #[.int .i64 x.kind, .int .i64 x.col, .int .i64 x.op, .int .i64 x.v.ty, .int .i64 x.v.n, .string x.v.s, .slice As x.l.length cs] 28)
        have hC := Lib.hid (IHn.out k x hxk (.slice As x.l.length cs) l _ (wr.alloc (.cells #[.int .i64 x.kind, .int .i64 x.col, .int .i64 x.op, .int .i64 x.v.ty, .int .i64 x.v.n, .string x.v.s, .slice As x.l.length cs] 28)) lo hi l1 h1 (hr.below up (by omega)) (by simp only [World.size_alloc]; omega) ((hv.below hb hh1).below up (by omega)) (by simp only [World.size_alloc]; omega))
        clear up
        clear hxk hr
        cases hh : failP l x
        · rw [hh] at hC
          have HN := Lib.hid (HN.out hh)
          go_wp2_with fail
          refine hC.out.mono ?_
          rintro e w1 ⟨rfl, hb1⟩
          go_wp2_with fail
          go_ret
          exact ⟨ret_bool (by rw [H.out, HN.out]), hb.trans ((below_a1 hb1).mono hb.size)⟩
        · rw [hh] at hC
          have HY := Lib.hid (HY.out hh)
          go_wp2_with fail
          refine hC.out.mono ?_
          rintro e w1 ⟨rfl, hb1⟩
          go_wp2_with fail
          go_roundw
          case rel => exact ⟨k + 1, by go_num, by omega, HY.out, hb.trans ((below_a1 hb1).mono hb.size)⟩
          case measure => simp [intOf]; omega
      · obtain rfl : k = p.l.length := by omega
        have HY := Lib.hid (all_end Hall.out)
        go_wp2_with fail
        go_ret
        exact ⟨ret_bool (by rw [H.out, HY.out]), hb⟩
  by_cases k5 : p.kind = 5
  · have H := Lib.hid (show failP l p = fstP (mayP l) p.l by rw [HE.out, if_neg k1, if_neg k2, if_neg k3, if_neg k4, if_pos k5])
    have d1 : (p.kind == 1) = false := by simp [k5]
    have d2 : (p.kind == 2) = false := by simp [k5]
    have d3 : (p.kind == 3) = false := by simp [k5]
    have d4 : (p.kind == 4) = false := by simp [k5]
    have d5 : (p.kind == 5) = true := by simp [k5]
    clear k1 k2 k3 k4 k5
    by_cases hl0 : p.l.length = 0
    · have hz0 : ((p.l.length : Int) == 0) = true := by simp; simpa using hl0
      have H := Lib.hid (show failP l p = true by rw [H.out, List.eq_nil_of_length_eq_zero hl0]; rfl)
      clear hl0
      go_enter Try.func46, Try.ntmps46
      go_wp2_with fail
      go_ret
      exact ⟨ret_bool H.out.symm, hb0.out⟩
    · have hz0 : ((p.l.length : Int) == 0) = false := by simp; intro h; exact hl0 (by simp [h])
      have hpos : 0 < p.l.length := by omega
      obtain ⟨b, off, x, sx, rfl, -, hbl, hxk, hat, hr⟩ := (hx.below hb0.out hhi).at hpos
      have H := Lib.hid (H.out.trans (fstP_of hxk))
      obtain ⟨e0, e1, e2, e3, e4, e5, e6⟩ := hat
      simp only [Nat.zero_mul, Nat.add_zero] at e0 e1 e2 e3 e4 e5 e6
      have hC := Lib.hid (IHm.out 0 x hxk sx l _ _ lo hi l1 h1 hr (Nat.le_trans hhi hb0.out.size) (hv.below hb0.out hh1) (Nat.le_trans hh1 hb0.out.size))
      clear hxk hr hl0
      go_enter Try.func46, Try.ntmps46
      go_wp2_with fail
      refine hC.out.mono ?_
      rintro e w1 ⟨rfl, hb1⟩
      go_wp2_with fail
      go_ret
      exact ⟨ret_bool H.out.symm, below_a1 hb1⟩
  have H := Lib.hid (show failP l p = true by rw [HE.out, if_neg k1, if_neg k2, if_neg k3, if_neg k4, if_neg k5])
  have d1 : (p.kind == 1) = false := by simp [k1]
  have d2 : (p.kind == 2) = false := by simp [k2]
  have d3 : (p.kind == 3) = false := by simp [k3]
  have d4 : (p.kind == 4) = false := by simp [k4]
  have d5 : (p.kind == 5) = false := by simp [k5]
  clear k1 k2 k3 k4 k5
  go_enter Try.func46, Try.ntmps46
  go_wp2_with fail
  go_ret
  exact ⟨ret_bool H.out.symm, hb0.out⟩
theorem impl_May_n : ∀ (N : Nat) (p : P), SizeOf.sizeOf p < N → impl_MayC p ∧ impl_NotC p
  | 0, _, h => absurd h (Nat.not_lt_zero _)
  | N + 1, p, hN => by
    have hm : ∀ (k : Nat) (x : P), p.l[k]? = some x → impl_MayC x := fun k x hx => (impl_May_n N x (by have := P.get_lt hx; omega)).1
    have hn : ∀ (k : Nat) (x : P), p.l[k]? = some x → impl_NotC x := fun k x hx => (impl_May_n N x (by have := P.get_lt hx; omega)).2
    exact ⟨impl_MayC_s p hm hn, impl_NotC_s p hm hn⟩
theorem impl_MayHold (p : P) (sv : Value) (l : List Z) (lv : Value) (w : World) {lo hi l1 h1 : Nat} (hx : RdP w lo hi sv p.l) (hhi : hi ≤ w.heap.size) (hv : RdZ w l1 h1 lv l) (hh1 : h1 ≤ w.heap.size) :
    Calls Try.prog 22 #[.agg #[.int .i64 p.kind, .int .i64 p.col, .int .i64 p.op, .int .i64 p.v.ty, .int .i64 p.v.n, .string p.v.s, sv], lv] w fun e w' => e = .returned (.bool (mayP l p)) ∧ Below w.heap.size w w' :=
  (impl_May_n _ p (Nat.lt_succ_self _)).1 sv l lv w lo hi l1 h1 hx hhi hv hh1
end Go.Proofs.Ytidmlfjolhnnfaa
