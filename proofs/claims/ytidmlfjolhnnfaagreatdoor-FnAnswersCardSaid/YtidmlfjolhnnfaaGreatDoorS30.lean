/- Predicates that hold for rows: contracts. -/
import Derived.Test.YtidmlfjolhnnfaaGreatDoorMemP
import Derived.Test.YtidmlfjolhnnfaaGreatDoorS4
import Derived.Test.YtidmlfjolhnnfaaGreatDoorXA
namespace Go.Lb
def cmpAt (l : List V) (col op : Int) (v : V) : Bool := if inR col 0 ((l.length : Int) - 1) then (match l[col.toNat]? with | some x => holds1 op x v | none => false) else false
mutual
def holdsP (l : List V) : P → Bool
  | .mk kind col op v ps => if kind = 1 then true else if kind = 2 then cmpAt l col op v else if kind = 3 then allH l ps else if kind = 4 then anyH l ps else if kind = 5 then notH l ps else false
def allH (l : List V) : List P → Bool
  | [] => true
  | p :: r => holdsP l p && allH l r
def anyH (l : List V) : List P → Bool
  | [] => false
  | p :: r => holdsP l p || anyH l r
def notH (l : List V) : List P → Bool
  | [] => true
  | p :: _ => !holdsP l p
end
theorem allH_eq (l : List V) (ps : List P) : allH l ps = ps.all (holdsP l) := by
  induction ps with
  | nil => rw [allH]; rfl
  | cons p r ih => rw [allH, ih, List.all_cons]
theorem anyH_eq (l : List V) (ps : List P) : anyH l ps = ps.any (holdsP l) := by
  induction ps with
  | nil => rw [anyH]; rfl
  | cons p r ih => rw [anyH, ih, List.any_cons]
theorem holdsP_eq (l : List V) (p : P) : holdsP l p = if p.kind = 1 then true else if p.kind = 2 then cmpAt l p.col p.op p.v else if p.kind = 3 then p.l.all (holdsP l) else if p.kind = 4 then p.l.any (holdsP l) else if p.kind = 5 then notH l p.l else false := by
  cases p with
  | mk kind col op v ps =>
    rw [holdsP, allH_eq, anyH_eq]
    rfl
theorem cmpAt_in {l : List V} {j : Nat} {op : Int} {v x : V} (h : l[j]? = some x) : cmpAt l (j : Int) op v = holds1 op x v := by
  have hj := (List.getElem?_eq_some_iff.1 h).1
  unfold cmpAt
  rw [inR_of (by omega) (by omega), if_pos rfl]
  simp [h]
theorem cmpAt_out {l : List V} {col op : Int} {v : V} (h : inR col 0 ((l.length : Int) - 1) = false) : cmpAt l col op v = false := by
  unfold cmpAt
  rw [h]; rfl
theorem all_no {α : Type} {l : List α} {f : α → Bool} {k : Nat} {x : α} (h : l[k]? = some x) (hx : f x = false) : l.all f = false := by
  rw [List.all_eq_false]
  exact ⟨x, mem_of_get h, by simp [hx]⟩
theorem all_step {α : Type} {l : List α} {f : α → Bool} {k : Nat} {x : α} (h : l[k]? = some x) (ha : (l.take k).all f = true) (hx : f x = true) : (l.take (k + 1)).all f = true := by
  rw [take_of_get h, List.all_append, ha]
  simp [hx]
theorem all_end {α : Type} {l : List α} {f : α → Bool} (ha : (l.take l.length).all f = true) : l.all f = true := by rwa [List.take_length] at ha
theorem any_yes {α : Type} {l : List α} {f : α → Bool} {k : Nat} {x : α} (h : l[k]? = some x) (hx : f x = true) : l.any f = true := List.any_eq_true.2 ⟨x, mem_of_get h, hx⟩
theorem any_step {α : Type} {l : List α} {f : α → Bool} {k : Nat} {x : α} (h : l[k]? = some x) (ha : (l.take k).any f = false) (hx : f x = false) : (l.take (k + 1)).any f = false := by
  rw [take_of_get h, List.any_append, ha]
  simp [hx]
theorem any_end {α : Type} {l : List α} {f : α → Bool} (ha : (l.take l.length).any f = false) : l.any f = false := by rwa [List.take_length] at ha
end Go.Lb
namespace Go.Proofs.YtidmlfjolhnnfaaGreatDoor
open Go.Sort Go.ChangeShapes Go.WideShapes Go.ChangeAt Go.RowKit Go.Lb

set_option maxRecDepth 20000 in
set_option maxHeartbeats 8000000 in
theorem spec_Holds_n : ∀ (N : Nat) (p : P), SizeOf.sizeOf p < N → ∀ (sv : Value) (l : List V) (lv : Value) (w : World) (lo hi l1 h1 : Nat), RdP w lo hi sv p.l → hi ≤ w.heap.size → RdV w l1 h1 lv l → h1 ≤ w.heap.size →
    Calls Tryz.prog 47 #[.agg #[.int .i64 p.kind, .int .i64 p.col, .int .i64 p.op, .int .i64 p.v.ty, .int .i64 p.v.n, .string p.v.s, sv], lv] w fun e w' => e = .returned (.bool (holdsP l p)) ∧ Below w.heap.size w w'
  | 0, _, h => absurd h (Nat.not_lt_zero _)
  | N + 1, p, hN => by
    have IH := Lib.hid (spec_Holds_n N)
    intro sv l lv w lo hi l1 h1 hx hhi hv hh1
    obtain ⟨A, c, rfl, hl, hl2⟩ := hx.form
    obtain ⟨A', c', rfl, hl', hl2'⟩ := hv.form
    have HE := Lib.hid (holdsP_eq l p)
    have hb0 := Lib.hid (up_a1 w (.cells #[.int .i64 p.kind, .int .i64 p.col, .int .i64 p.op, .int .i64 p.v.ty, .int .i64 p.v.n, .string p.v.s, .slice A p.l.length c] 28))
    have hw1 : IntKind.i64.wrap ((l.length : Int) - 1) = (l.length : Int) - 1 := IntWalk.i64_in _ ⟨by omega, by omega⟩
    by_cases k1 : p.kind = 1
    · have H := Lib.hid (show holdsP l p = true by rw [HE.out, if_pos k1])
      have d1 : (p.kind == 1) = true := by simp [k1]
      clear k1
      go_enter Tryz.func47, Tryz.ntmps47
      go_wp2_with fail
      go_ret
      exact ⟨ret_bool H.out.symm, hb0.out⟩
    have d1 : (p.kind == 1) = false := by simp [k1]
    by_cases k2 : p.kind = 2
    · have H := Lib.hid (show holdsP l p = cmpAt l p.col p.op p.v by rw [HE.out, if_neg k1, if_pos k2])
      have d2 : (p.kind == 2) = true := by simp [k2]
      clear k1 k2
      have n1 := box_new w #[.int .i64 p.kind, .int .i64 p.col, .int .i64 p.op, .int .i64 p.v.ty, .int .i64 p.v.n, .string p.v.s, .slice A p.l.length c] 28 1
      have n2 := box_new w #[.int .i64 p.kind, .int .i64 p.col, .int .i64 p.op, .int .i64 p.v.ty, .int .i64 p.v.n, .string p.v.s, .slice A p.l.length c] 28 2
      have n3 := box_new w #[.int .i64 p.kind, .int .i64 p.col, .int .i64 p.op, .int .i64 p.v.ty, .int .i64 p.v.n, .string p.v.s, .slice A p.l.length c] 28 3
      have n4 := box_new w #[.int .i64 p.kind, .int .i64 p.col, .int .i64 p.op, .int .i64 p.v.ty, .int .i64 p.v.n, .string p.v.s, .slice A p.l.length c] 28 4
      have n5 := box_new w #[.int .i64 p.kind, .int .i64 p.col, .int .i64 p.op, .int .i64 p.v.ty, .int .i64 p.v.n, .string p.v.s, .slice A p.l.length c] 28 5
      simp only [List.getElem?_toArray, List.getElem?_cons_zero, List.getElem?_cons_succ] at n1 n2 n3 n4 n5
      generalize hcol : p.col = col at *
      cases hI : inR col 0 ((l.length : Int) - 1)
      · have H := Lib.hid (H.out.trans (cmpAt_out hI))
        go_enter Tryz.func47, Tryz.ntmps47
        go_wp2_with fail
        have q_0 := cell_regrown (w := (w.alloc (.cells #[.int .i64 p.kind, .int .i64 col, .int .i64 p.op, .int .i64 p.v.ty, .int .i64 p.v.n, .string p.v.s, .slice A p.l.length c] 28))) n1
        refine wp_region_quiet_below (by kernel_rfl) (by kernel_rfl) ?_
        repeat (go_big_quiet_step (first | (go_at_call 49; exact Calls.regrown_of ((c_spec_l1In _ _ _ _).mono fun e w' h => ⟨hI ▸ h.1, h.2⟩))))
        refine wpQuiet_nil ?_
        intro wq hw'
        obtain ⟨⟨dq, osq⟩, hw''⟩ := hw'
        have hbq := below_regrown (w.alloc (.cells #[.int .i64 p.kind, .int .i64 col, .int .i64 p.op, .int .i64 p.v.ty, .int .i64 p.v.n, .string p.v.s, .slice A p.l.length c] 28)) dq osq
        rw [← hw''] at hbq
        clear hw''
        clear q_0
        go_wp2_with fail
        go_ret
        exact ⟨ret_bool H.out.symm, below_a1 hbq⟩
      · obtain ⟨j0, j1⟩ := inR_yes hI
        obtain ⟨j, rfl⟩ : ∃ j : Nat, col = (j : Int) := ⟨col.toNat, by omega⟩
        have hjl : j < l.length := by omega
        obtain ⟨b, off, x, rfl, -, hbl, hxk, e0, e1, e2⟩ := (hv.below hb0.out hh1).at hjl
        have H := Lib.hid (H.out.trans (cmpAt_in hxk))
        clear hxk j0 j1
        go_enter Tryz.func47, Tryz.ntmps47
        go_wp2_with fail
        have q_0 := cell_regrown (w := (w.alloc (.cells #[.int .i64 p.kind, .int .i64 (j : Int), .int .i64 p.op, .int .i64 p.v.ty, .int .i64 p.v.n, .string p.v.s, .slice A p.l.length c] 28))) n1
        have q_1 := cell_regrown (w := (w.alloc (.cells #[.int .i64 p.kind, .int .i64 (j : Int), .int .i64 p.op, .int .i64 p.v.ty, .int .i64 p.v.n, .string p.v.s, .slice A p.l.length c] 28))) n2
        have q_2 := cell_regrown (w := (w.alloc (.cells #[.int .i64 p.kind, .int .i64 (j : Int), .int .i64 p.op, .int .i64 p.v.ty, .int .i64 p.v.n, .string p.v.s, .slice A p.l.length c] 28))) n3
        have q_3 := cell_regrown (w := (w.alloc (.cells #[.int .i64 p.kind, .int .i64 (j : Int), .int .i64 p.op, .int .i64 p.v.ty, .int .i64 p.v.n, .string p.v.s, .slice A p.l.length c] 28))) n4
        have q_4 := cell_regrown (w := (w.alloc (.cells #[.int .i64 p.kind, .int .i64 (j : Int), .int .i64 p.op, .int .i64 p.v.ty, .int .i64 p.v.n, .string p.v.s, .slice A p.l.length c] 28))) n5
        have q_5 := cell_regrown (w := (w.alloc (.cells #[.int .i64 p.kind, .int .i64 (j : Int), .int .i64 p.op, .int .i64 p.v.ty, .int .i64 p.v.n, .string p.v.s, .slice A p.l.length c] 28))) e0
        have q_6 := cell_regrown (w := (w.alloc (.cells #[.int .i64 p.kind, .int .i64 (j : Int), .int .i64 p.op, .int .i64 p.v.ty, .int .i64 p.v.n, .string p.v.s, .slice A p.l.length c] 28))) e1
        have q_7 := cell_regrown (w := (w.alloc (.cells #[.int .i64 p.kind, .int .i64 (j : Int), .int .i64 p.op, .int .i64 p.v.ty, .int .i64 p.v.n, .string p.v.s, .slice A p.l.length c] 28))) e2
        refine wp_region_quiet_below (by kernel_rfl) (by kernel_rfl) ?_
        repeat (go_big_quiet_step (first | (go_at_call 49; exact Calls.regrown_of ((c_spec_l1In _ _ _ _).mono fun e w' h => ⟨hI ▸ h.1, h.2⟩)) | (go_at_call 66; exact Calls.regrown_of (spec_Holds1 p.op x p.v _))))
        refine wpQuiet_nil ?_
        intro wq hw'
        obtain ⟨⟨dq, osq⟩, hw''⟩ := hw'
        have hbq := below_regrown (w.alloc (.cells #[.int .i64 p.kind, .int .i64 (j : Int), .int .i64 p.op, .int .i64 p.v.ty, .int .i64 p.v.n, .string p.v.s, .slice A p.l.length c] 28)) dq osq
        rw [← hw''] at hbq
        clear hw''
        clear q_0 q_1 q_2 q_3 q_4 q_5 q_6 q_7
        go_wp2_with fail
        go_ret
        exact ⟨ret_bool H.out.symm, below_a1 hbq⟩
    have d2 : (p.kind == 2) = false := by simp [k2]
    by_cases k3 : p.kind = 3
    · have H := Lib.hid (show holdsP l p = p.l.all (holdsP l) by rw [HE.out, if_neg k1, if_neg k2, if_pos k3])
      have d3 : (p.kind == 3) = true := by simp [k3]
      clear k1 k2 k3
      go_enter Tryz.func47, Tryz.ntmps47
      go_wp2_with fail
      go_loopw [5] (fun i wr => ∃ k : Nat, i = .int .i64 k ∧ k ≤ p.l.length ∧ (p.l.take k).all (holdsP l) = true ∧ wr.heap[w.heap.size]? = some (.cells #[.int .i64 p.kind, .int .i64 p.col, .int .i64 p.op, .int .i64 p.v.ty, .int .i64 p.v.n, .string p.v.s, .slice A p.l.length c] 28) ∧ Below w.heap.size w wr) (fun i _ => p.l.length - (intOf i).toNat)
      case atStart => exact ⟨0, rfl, by omega, by simp, heap_alloc_new w _, hb0.out⟩
      case round =>
        obtain ⟨k, rfl, hk, hall, hc, hb⟩ := hrel
        have Hall := Lib.hid hall
        have hg : w.heap.size < wr.heap.size := (Array.getElem?_eq_some_iff.1 hc).1
        have q6 := cell_of_row wr _ 6 _ _ _ hc
        have Hc := Lib.hid hc
        clear hall hc
        by_cases hkl : k < p.l.length
        · obtain ⟨b, off, x, sx, rfl, -, hbl, hxk, hat, hr⟩ := (hx.below hb hhi).at hkl
          obtain ⟨e0, e1, e2, e3, e4, e5, e6⟩ := hat
          have hlt := P.get_lt hxk
          have HN := Lib.hid (fun h => all_no (f := holdsP l) hxk h)
          have HY := Lib.hid (fun h => all_step (f := holdsP l) hxk Hall.out h)
          have hC := Lib.hid (IH.out x (by omega) sx l _ wr lo hi l1 h1 hr (Nat.le_trans hhi hb.size) (hv.below hb hh1) (Nat.le_trans hh1 hb.size))
          clear hxk hr
          cases hh : holdsP l x
          · rw [hh] at hC
            have HN := Lib.hid (HN.out hh)
            go_wp2_with fail
            refine hC.out.mono ?_
            rintro e w1 ⟨rfl, hb1⟩
            go_wp2_with fail
            go_ret
            exact ⟨ret_bool (by rw [H.out, HN.out]), hb.trans (hb1.mono hb.size)⟩
          · rw [hh] at hC
            have HY := Lib.hid (HY.out hh)
            go_wp2_with fail
            refine hC.out.mono ?_
            rintro e w1 ⟨rfl, hb1⟩
            go_wp2_with fail
            go_roundw
            case rel => exact ⟨k + 1, by go_num, by omega, HY.out, (hb1.block _ hg).trans Hc.out, hb.trans (hb1.mono hb.size)⟩
            case measure => simp [intOf]; omega
        · obtain rfl : k = p.l.length := by omega
          have HY := Lib.hid (all_end Hall.out)
          go_wp2_with fail
          go_ret
          exact ⟨ret_bool (by rw [H.out, HY.out]), hb⟩
    have d3 : (p.kind == 3) = false := by simp [k3]
    by_cases k4 : p.kind = 4
    · have H := Lib.hid (show holdsP l p = p.l.any (holdsP l) by rw [HE.out, if_neg k1, if_neg k2, if_neg k3, if_pos k4])
      have d4 : (p.kind == 4) = true := by simp [k4]
      clear k1 k2 k3 k4
      go_enter Tryz.func47, Tryz.ntmps47
      go_wp2_with fail
      go_loopw [6] (fun i wr => ∃ k : Nat, i = .int .i64 k ∧ k ≤ p.l.length ∧ (p.l.take k).any (holdsP l) = false ∧ wr.heap[w.heap.size]? = some (.cells #[.int .i64 p.kind, .int .i64 p.col, .int .i64 p.op, .int .i64 p.v.ty, .int .i64 p.v.n, .string p.v.s, .slice A p.l.length c] 28) ∧ Below w.heap.size w wr) (fun i _ => p.l.length - (intOf i).toNat)
      case atStart => exact ⟨0, rfl, by omega, by simp, heap_alloc_new w _, hb0.out⟩
      case round =>
        obtain ⟨k, rfl, hk, hall, hc, hb⟩ := hrel
        have Hall := Lib.hid hall
        have hg : w.heap.size < wr.heap.size := (Array.getElem?_eq_some_iff.1 hc).1
        have q6 := cell_of_row wr _ 6 _ _ _ hc
        have Hc := Lib.hid hc
        clear hall hc
        by_cases hkl : k < p.l.length
        · obtain ⟨b, off, x, sx, rfl, -, hbl, hxk, hat, hr⟩ := (hx.below hb hhi).at hkl
          obtain ⟨e0, e1, e2, e3, e4, e5, e6⟩ := hat
          have hlt := P.get_lt hxk
          have HN := Lib.hid (fun h => any_yes (f := holdsP l) hxk h)
          have HY := Lib.hid (fun h => any_step (f := holdsP l) hxk Hall.out h)
          have hC := Lib.hid (IH.out x (by omega) sx l _ wr lo hi l1 h1 hr (Nat.le_trans hhi hb.size) (hv.below hb hh1) (Nat.le_trans hh1 hb.size))
          clear hxk hr
          cases hh : holdsP l x
          · rw [hh] at hC
            have HY := Lib.hid (HY.out hh)
            go_wp2_with fail
            refine hC.out.mono ?_
            rintro e w1 ⟨rfl, hb1⟩
            go_wp2_with fail
            go_roundw
            case rel => exact ⟨k + 1, by go_num, by omega, HY.out, (hb1.block _ hg).trans Hc.out, hb.trans (hb1.mono hb.size)⟩
            case measure => simp [intOf]; omega
          · rw [hh] at hC
            have HN := Lib.hid (HN.out hh)
            go_wp2_with fail
            refine hC.out.mono ?_
            rintro e w1 ⟨rfl, hb1⟩
            go_wp2_with fail
            go_ret
            exact ⟨ret_bool (by rw [H.out, HN.out]), hb.trans (hb1.mono hb.size)⟩
        · obtain rfl : k = p.l.length := by omega
          have HY := Lib.hid (any_end Hall.out)
          go_wp2_with fail
          go_ret
          exact ⟨ret_bool (by rw [H.out, HY.out]), hb⟩
    have d4 : (p.kind == 4) = false := by simp [k4]
    by_cases k5 : p.kind = 5
    · have H := Lib.hid (show holdsP l p = notH l p.l by rw [HE.out, if_neg k1, if_neg k2, if_neg k3, if_neg k4, if_pos k5])
      have d5 : (p.kind == 5) = true := by simp [k5]
      clear k1 k2 k3 k4 k5
      by_cases hl0 : p.l.length = 0
      · have hz0 : ((p.l.length : Int) == 0) = true := by simp; simpa using hl0
        have H := Lib.hid (show holdsP l p = true by rw [H.out, List.eq_nil_of_length_eq_zero hl0, notH])
        clear hl0
        go_enter Tryz.func47, Tryz.ntmps47
        go_wp2_with fail
        go_ret
        exact ⟨ret_bool H.out.symm, hb0.out⟩
      · have hz0 : ((p.l.length : Int) == 0) = false := by simp; intro h; exact hl0 (by simp [h])
        have hpos : 0 < p.l.length := by omega
        obtain ⟨b, off, x, sx, rfl, -, hbl, hxk, hat, hr⟩ := (hx.below hb0.out hhi).at hpos
        have hlt := P.get_lt hxk
        have H := Lib.hid (show holdsP l p = !holdsP l x by
          rw [H.out]
          generalize p.l = ps at hxk
          cases ps with
          | nil => simp at hxk
          | cons y r => simp at hxk; subst hxk; rw [notH])
        obtain ⟨e0, e1, e2, e3, e4, e5, e6⟩ := hat
        simp only [Nat.zero_mul, Nat.add_zero] at e0 e1 e2 e3 e4 e5 e6
        have hC := Lib.hid (IH.out x (by omega) sx l _ _ lo hi l1 h1 hr (Nat.le_trans hhi hb0.out.size) (hv.below hb0.out hh1) (Nat.le_trans hh1 hb0.out.size))
        clear hxk hr hl0
        go_enter Tryz.func47, Tryz.ntmps47
        go_wp2_with fail
        refine hC.out.mono ?_
        rintro e w1 ⟨rfl, hb1⟩
        go_wp2_with fail
        go_ret
        exact ⟨ret_bool H.out.symm, below_a1 hb1⟩
    · have H := Lib.hid (show holdsP l p = false by rw [HE.out, if_neg k1, if_neg k2, if_neg k3, if_neg k4, if_neg k5])
      have d5 : (p.kind == 5) = false := by simp [k5]
      clear k1 k2 k3 k4 k5
      go_enter Tryz.func47, Tryz.ntmps47
      go_wp2_with fail
      go_ret
      exact ⟨ret_bool H.out.symm, hb0.out⟩
end Go.Proofs.YtidmlfjolhnnfaaGreatDoor
