/- Predicates that may hold in zones (the reference): contracts. -/
import Derived.Test.YtidmlfjolhnnfaaS30
import Derived.Test.YtidmlfjolhnnfaaS5
import Derived.Test.YtidmlfjolhnnfaaS6
import Derived.Test.YtidmlfjolhnnfaaLZS
namespace Go.Lb
def mcmpAt (l : List Z) (col op : Int) (v : V) : Bool := if inR col 0 ((l.length : Int) - 1) then (match l[col.toNat]? with | some x => mayHold1 op x v | none => false) else false
def fcmpAt (l : List Z) (col op : Int) (v : V) : Bool := if inR col 0 ((l.length : Int) - 1) then (match l[col.toNat]? with | some x => mayHold1 (opposite op) x v | none => true) else true
theorem mcmpAt_in {l : List Z} {j : Nat} {op : Int} {v : V} {x : Z} (h : l[j]? = some x) : mcmpAt l (j : Int) op v = mayHold1 op x v := by
  have hj := (List.getElem?_eq_some_iff.1 h).1
  unfold mcmpAt
  rw [inR_of (by omega) (by omega), if_pos rfl]
  simp [h]
theorem mcmpAt_out {l : List Z} {col op : Int} {v : V} (h : inR col 0 ((l.length : Int) - 1) = false) : mcmpAt l col op v = false := by
  unfold mcmpAt
  rw [h]; rfl
theorem fcmpAt_in {l : List Z} {j : Nat} {op : Int} {v : V} {x : Z} (h : l[j]? = some x) : fcmpAt l (j : Int) op v = mayHold1 (opposite op) x v := by
  have hj := (List.getElem?_eq_some_iff.1 h).1
  unfold fcmpAt
  rw [inR_of (by omega) (by omega), if_pos rfl]
  simp [h]
theorem fcmpAt_out {l : List Z} {col op : Int} {v : V} (h : inR col 0 ((l.length : Int) - 1) = false) : fcmpAt l col op v = true := by
  unfold fcmpAt
  rw [h]; rfl
mutual
def mayP (l : List Z) : P → Bool
  | .mk kind col op v ps => if kind = 1 then true else if kind = 2 then mcmpAt l col op v else if kind = 3 then allM l ps else if kind = 4 then anyM l ps else if kind = 5 then fstF l ps else false
def failP (l : List Z) : P → Bool
  | .mk kind col op v ps => if kind = 1 then false else if kind = 2 then fcmpAt l col op v else if kind = 3 then anyF l ps else if kind = 4 then allF l ps else if kind = 5 then fstM l ps else true
def allM (l : List Z) : List P → Bool
  | [] => true
  | p :: r => mayP l p && allM l r
def anyM (l : List Z) : List P → Bool
  | [] => false
  | p :: r => mayP l p || anyM l r
def fstM (l : List Z) : List P → Bool
  | [] => true
  | p :: _ => mayP l p
def allF (l : List Z) : List P → Bool
  | [] => true
  | p :: r => failP l p && allF l r
def anyF (l : List Z) : List P → Bool
  | [] => false
  | p :: r => failP l p || anyF l r
def fstF (l : List Z) : List P → Bool
  | [] => true
  | p :: _ => failP l p
end
def fstP (f : P → Bool) : List P → Bool
  | [] => true
  | p :: _ => f p
theorem fstP_of {f : P → Bool} {ps : List P} {x : P} (h : ps[0]? = some x) : fstP f ps = f x := by
  cases ps with
  | nil => simp at h
  | cons y r => simp at h; subst h; rfl
theorem allM_eq (l : List Z) (ps : List P) : allM l ps = ps.all (mayP l) := by
  induction ps with
  | nil => rw [allM]; rfl
  | cons p r ih => rw [allM, ih, List.all_cons]
theorem anyM_eq (l : List Z) (ps : List P) : anyM l ps = ps.any (mayP l) := by
  induction ps with
  | nil => rw [anyM]; rfl
  | cons p r ih => rw [anyM, ih, List.any_cons]
theorem allF_eq (l : List Z) (ps : List P) : allF l ps = ps.all (failP l) := by
  induction ps with
  | nil => rw [allF]; rfl
  | cons p r ih => rw [allF, ih, List.all_cons]
theorem anyF_eq (l : List Z) (ps : List P) : anyF l ps = ps.any (failP l) := by
  induction ps with
  | nil => rw [anyF]; rfl
  | cons p r ih => rw [anyF, ih, List.any_cons]
theorem fstM_eq (l : List Z) (ps : List P) : fstM l ps = fstP (mayP l) ps := by cases ps <;> rw [fstM] <;> rfl
theorem fstF_eq (l : List Z) (ps : List P) : fstF l ps = fstP (failP l) ps := by cases ps <;> rw [fstF] <;> rfl
theorem mayP_eq (l : List Z) (p : P) : mayP l p = if p.kind = 1 then true else if p.kind = 2 then mcmpAt l p.col p.op p.v else if p.kind = 3 then p.l.all (mayP l) else if p.kind = 4 then p.l.any (mayP l) else if p.kind = 5 then fstP (failP l) p.l else false := by
  cases p with
  | mk kind col op v ps =>
    rw [mayP, allM_eq, anyM_eq, fstF_eq]
    rfl
theorem failP_eq (l : List Z) (p : P) : failP l p = if p.kind = 1 then false else if p.kind = 2 then fcmpAt l p.col p.op p.v else if p.kind = 3 then p.l.any (failP l) else if p.kind = 4 then p.l.all (failP l) else if p.kind = 5 then fstP (mayP l) p.l else true := by
  cases p with
  | mk kind col op v ps =>
    rw [failP, allF_eq, anyF_eq, fstM_eq]
    rfl
end Go.Lb
namespace Go.Proofs.Ytidmlfjolhnnfaa
open Go.Sort Go.ChangeShapes Go.WideShapes Go.ChangeAt Go.RowKit Go.Lb

def spec_MayC (p : P) : Prop := ∀ (sv : Value) (l : List Z) (lv : Value) (w : World) (lo hi l1 h1 : Nat), RdP w lo hi sv p.l → hi ≤ w.heap.size → RdZ w l1 h1 lv l → h1 ≤ w.heap.size →
    Calls Try.prog 23 #[.agg #[.int .i64 p.kind, .int .i64 p.col, .int .i64 p.op, .int .i64 p.v.ty, .int .i64 p.v.n, .string p.v.s, sv], lv] w fun e w' => e = .returned (.bool (mayP l p)) ∧ Below w.heap.size w w'
def spec_NotC (p : P) : Prop := ∀ (sv : Value) (l : List Z) (lv : Value) (w : World) (lo hi l1 h1 : Nat), RdP w lo hi sv p.l → hi ≤ w.heap.size → RdZ w l1 h1 lv l → h1 ≤ w.heap.size →
    Calls Try.prog 48 #[.agg #[.int .i64 p.kind, .int .i64 p.col, .int .i64 p.op, .int .i64 p.v.ty, .int .i64 p.v.n, .string p.v.s, sv], lv] w fun e w' => e = .returned (.bool (failP l p)) ∧ Below w.heap.size w w'
set_option maxRecDepth 20000 in
set_option maxHeartbeats 8000000 in
theorem spec_MayC_s (p : P) (IHm : ∀ (k : Nat) (x : P), p.l[k]? = some x → spec_MayC x) (IHn : ∀ (k : Nat) (x : P), p.l[k]? = some x → spec_NotC x) : spec_MayC p := by
  have IHm := Lib.hid IHm
  have IHn := Lib.hid IHn
  intro sv l lv w lo hi l1 h1 hx hhi hv hh1
  obtain ⟨A, c, rfl, hl, hl2⟩ := hx.form
  obtain ⟨A', c', rfl, hl', hl2'⟩ := hv.form
  have HE := Lib.hid (mayP_eq l p)
  have hb0 := Lib.hid (up_a1 w (.cells #[.int .i64 p.kind, .int .i64 p.col, .int .i64 p.op, .int .i64 p.v.ty, .int .i64 p.v.n, .string p.v.s, .slice A p.l.length c] 28))
  have hw1 := Lib.hid (show IntKind.i64.wrap ((l.length : Int) - 1) = (l.length : Int) - 1 from IntWalk.i64_in _ ⟨by omega, by omega⟩)
  by_cases k1 : p.kind = 1
  · have H := Lib.hid (show mayP l p = true by rw [HE.out, if_pos k1])
    have d1 : (p.kind == 1) = true := by simp [k1]
    have d2 : (p.kind == 2) = false := by simp [k1]
    have d3 : (p.kind == 3) = false := by simp [k1]
    have d4 : (p.kind == 4) = false := by simp [k1]
    have d5 : (p.kind == 5) = false := by simp [k1]
    clear k1
    go_enter Try.func23, Try.ntmps23
    go_wp2_with fail
    go_ret
    exact ⟨ret_bool H.out.symm, hb0.out⟩
  by_cases k2 : p.kind = 2
  · have H := Lib.hid (show mayP l p = mcmpAt l p.col p.op p.v by rw [HE.out, if_neg k1, if_pos k2])
    have d1 : (p.kind == 1) = false := by simp [k2]
    have d2 : (p.kind == 2) = true := by simp [k2]
    have d3 : (p.kind == 3) = false := by simp [k2]
    have d4 : (p.kind == 4) = false := by simp [k2]
    have d5 : (p.kind == 5) = false := by simp [k2]
    clear k1 k2
    have n1 := box_new w #[.int .i64 p.kind, .int .i64 p.col, .int .i64 p.op, .int .i64 p.v.ty, .int .i64 p.v.n, .string p.v.s, .slice A p.l.length c] 28 1
    have n2 := box_new w #[.int .i64 p.kind, .int .i64 p.col, .int .i64 p.op, .int .i64 p.v.ty, .int .i64 p.v.n, .string p.v.s, .slice A p.l.length c] 28 2
    have n3 := box_new w #[.int .i64 p.kind, .int .i64 p.col, .int .i64 p.op, .int .i64 p.v.ty, .int .i64 p.v.n, .string p.v.s, .slice A p.l.length c] 28 3
    have n4 := box_new w #[.int .i64 p.kind, .int .i64 p.col, .int .i64 p.op, .int .i64 p.v.ty, .int .i64 p.v.n, .string p.v.s, .slice A p.l.length c] 28 4
    have n5 := box_new w #[.int .i64 p.kind, .int .i64 p.col, .int .i64 p.op, .int .i64 p.v.ty, .int .i64 p.v.n, .string p.v.s, .slice A p.l.length c] 28 5
    simp only [List.getElem?_toArray, List.getElem?_cons_zero, List.getElem?_cons_succ] at n1 n2 n3 n4 n5
    generalize hcol : p.col = col at *
    cases hI : inR col 0 ((l.length : Int) - 1)
    · have H := Lib.hid (H.out.trans (mcmpAt_out hI))
      have hw1 := hw1.out
      go_enter Try.func23, Try.ntmps23
      go_wp2_with fail
      have q_0 := cell_regrown (w := (w.alloc (.cells #[.int .i64 p.kind, .int .i64 col, .int .i64 p.op, .int .i64 p.v.ty, .int .i64 p.v.n, .string p.v.s, .slice A p.l.length c] 28))) n1
      refine wp_region_quiet_below (by kernel_rfl) (by kernel_rfl) ?_
      repeat (go_big_quiet_step (first | (go_at_call 34; exact Calls.regrown_of ((c_spec_l1In _ _ _ _).mono fun e w' h => ⟨hI ▸ h.1, h.2⟩))))
      refine wpQuiet_nil ?_
      intro wq hw'
      obtain ⟨⟨dq, osq⟩, hw''⟩ := hw'
      have hbq := below_regrown (w.alloc (.cells #[.int .i64 p.kind, .int .i64 col, .int .i64 p.op, .int .i64 p.v.ty, .int .i64 p.v.n, .string p.v.s, .slice A p.l.length c] 28)) dq osq
      rw [← hw''] at hbq
      clear hw''
      clear q_0
      go_wp2_with fail
      go_ret
      exact ⟨ret_bool H.out.symm, below_a1 hbq⟩
    · obtain ⟨j0, j1⟩ := inR_yes hI
      obtain ⟨j, rfl⟩ : ∃ j : Nat, col = (j : Int) := ⟨col.toNat, by omega⟩
      have hjl : j < l.length := by omega
      have g2 : decide ((j : Int) < 0) = false := decide_eq_false (by omega)
      have g3 : decide ((l.length : Int) ≤ (j : Int)) = false := decide_eq_false (by omega)
      have g4 : decide (l.length ≤ j) = false := decide_eq_false (by omega)
      obtain ⟨b, off, x, rfl, -, hbl, hxk, e0, e1, e2, e3, e4, e5⟩ := (hv.below hb0.out hh1).at hjl
      have H := Lib.hid (H.out.trans (mcmpAt_in hxk))
      have hw1 := hw1.out
      clear hxk j0 j1
      go_enter Try.func23, Try.ntmps23
      go_wp2_with fail
      have q_0 := cell_regrown (w := (w.alloc (.cells #[.int .i64 p.kind, .int .i64 (j : Int), .int .i64 p.op, .int .i64 p.v.ty, .int .i64 p.v.n, .string p.v.s, .slice A p.l.length c] 28))) n1
      have q_1 := cell_regrown (w := (w.alloc (.cells #[.int .i64 p.kind, .int .i64 (j : Int), .int .i64 p.op, .int .i64 p.v.ty, .int .i64 p.v.n, .string p.v.s, .slice A p.l.length c] 28))) n2
      have q_2 := cell_regrown (w := (w.alloc (.cells #[.int .i64 p.kind, .int .i64 (j : Int), .int .i64 p.op, .int .i64 p.v.ty, .int .i64 p.v.n, .string p.v.s, .slice A p.l.length c] 28))) n3
      have q_3 := cell_regrown (w := (w.alloc (.cells #[.int .i64 p.kind, .int .i64 (j : Int), .int .i64 p.op, .int .i64 p.v.ty, .int .i64 p.v.n, .string p.v.s, .slice A p.l.length c] 28))) n4
      have q_4 := cell_regrown (w := (w.alloc (.cells #[.int .i64 p.kind, .int .i64 (j : Int), .int .i64 p.op, .int .i64 p.v.ty, .int .i64 p.v.n, .string p.v.s, .slice A p.l.length c] 28))) n5
      have q_5 := cell_regrown (w := (w.alloc (.cells #[.int .i64 p.kind, .int .i64 (j : Int), .int .i64 p.op, .int .i64 p.v.ty, .int .i64 p.v.n, .string p.v.s, .slice A p.l.length c] 28))) e0
      have q_6 := cell_regrown (w := (w.alloc (.cells #[.int .i64 p.kind, .int .i64 (j : Int), .int .i64 p.op, .int .i64 p.v.ty, .int .i64 p.v.n, .string p.v.s, .slice A p.l.length c] 28))) e1
      have q_7 := cell_regrown (w := (w.alloc (.cells #[.int .i64 p.kind, .int .i64 (j : Int), .int .i64 p.op, .int .i64 p.v.ty, .int .i64 p.v.n, .string p.v.s, .slice A p.l.length c] 28))) e2
      have q_8 := cell_regrown (w := (w.alloc (.cells #[.int .i64 p.kind, .int .i64 (j : Int), .int .i64 p.op, .int .i64 p.v.ty, .int .i64 p.v.n, .string p.v.s, .slice A p.l.length c] 28))) e3
      have q_9 := cell_regrown (w := (w.alloc (.cells #[.int .i64 p.kind, .int .i64 (j : Int), .int .i64 p.op, .int .i64 p.v.ty, .int .i64 p.v.n, .string p.v.s, .slice A p.l.length c] 28))) e4
      have q_10 := cell_regrown (w := (w.alloc (.cells #[.int .i64 p.kind, .int .i64 (j : Int), .int .i64 p.op, .int .i64 p.v.ty, .int .i64 p.v.n, .string p.v.s, .slice A p.l.length c] 28))) e5
      refine wp_region_quiet_below (by kernel_rfl) (by kernel_rfl) ?_
      repeat (go_big_quiet_step (first | (go_at_call 34; exact Calls.regrown_of ((c_spec_l1In _ _ _ _).mono fun e w' h => ⟨hI ▸ h.1, h.2⟩)) | (go_at_call 47; exact Calls.regrown_of (spec_MayHold1 p.op x p.v _))))
      refine wpQuiet_nil ?_
      intro wq hw'
      obtain ⟨⟨dq, osq⟩, hw''⟩ := hw'
      have hbq := below_regrown (w.alloc (.cells #[.int .i64 p.kind, .int .i64 (j : Int), .int .i64 p.op, .int .i64 p.v.ty, .int .i64 p.v.n, .string p.v.s, .slice A p.l.length c] 28)) dq osq
      rw [← hw''] at hbq
      clear hw''
      clear q_0 q_1 q_2 q_3 q_4 q_5 q_6 q_7 q_8 q_9 q_10
      go_wp2_with fail
      go_ret
      exact ⟨ret_bool H.out.symm, below_a1 hbq⟩
  by_cases k3 : p.kind = 3
  · have H := Lib.hid (show mayP l p = p.l.all (mayP l) by rw [HE.out, if_neg k1, if_neg k2, if_pos k3])
    have d1 : (p.kind == 1) = false := by simp [k3]
    have d2 : (p.kind == 2) = false := by simp [k3]
    have d3 : (p.kind == 3) = true := by simp [k3]
    have d4 : (p.kind == 4) = false := by simp [k3]
    have d5 : (p.kind == 5) = false := by simp [k3]
    clear k1 k2 k3
    go_enter Try.func23, Try.ntmps23
    go_wp2_with fail
    go_loopw [5] (fun i wr => ∃ k : Nat, i = .int .i64 k ∧ k ≤ p.l.length ∧ (p.l.take k).all (mayP l) = true ∧ wr.heap[w.heap.size]? = some (.cells #[.int .i64 p.kind, .int .i64 p.col, .int .i64 p.op, .int .i64 p.v.ty, .int .i64 p.v.n, .string p.v.s, .slice A p.l.length c] 28) ∧ Below w.heap.size w wr) (fun i _ => p.l.length - (intOf i).toNat)
    case atStart => exact ⟨0, rfl, by omega, by simp, heap_alloc_new w _, hb0.out⟩
    case round =>
      obtain ⟨k, rfl, hk, hall, hc, hb⟩ := hrel
      have Hall := Lib.hid hall
      have hg : w.heap.size < wr.heap.size := (Array.getElem?_eq_some_iff.1 hc).1
      have q6 := cell_of_row wr _ 6 _ _ _ hc
      have Hc := Lib.hid hc
      clear hall hc
      by_cases hkl : k < p.l.length
      · obtain ⟨b, off, x, sx, rfl, -, hbl, hxk, hat, hr⟩ := (hx.below hb hhi).at hkl
        obtain ⟨e0, e1, e2, e3, e4, e5, e6⟩ := hat
        have HN := Lib.hid (fun h => all_no (f := mayP l) hxk h)
        have HY := Lib.hid (fun h => all_step (f := mayP l) hxk Hall.out h)
        have hC := Lib.hid (IHm.out k x hxk sx l _ wr lo hi l1 h1 hr (Nat.le_trans hhi hb.size) (hv.below hb hh1) (Nat.le_trans hh1 hb.size))
        clear hxk hr
        cases hh : mayP l x
        · rw [hh] at hC
          have HN := Lib.hid (HN.out hh)
          go_wp2_with fail
          refine hC.out.mono ?_
          rintro e w1 ⟨rfl, hb1⟩
          go_wp2_with fail
          go_ret
          exact ⟨ret_bool (by rw [H.out, HN.out]), hb.trans (hb1.mono hb.size)⟩
        · rw [hh] at hC
          have HY := Lib.hid (HY.out hh)
          go_wp2_with fail
          refine hC.out.mono ?_
          rintro e w1 ⟨rfl, hb1⟩
          go_wp2_with fail
          go_roundw
          case rel => exact ⟨k + 1, by go_num, by omega, HY.out, (hb1.block _ hg).trans Hc.out, hb.trans (hb1.mono hb.size)⟩
          case measure => simp [intOf]; omega
      · obtain rfl : k = p.l.length := by omega
        have HY := Lib.hid (all_end Hall.out)
        go_wp2_with fail
        go_ret
        exact ⟨ret_bool (by rw [H.out, HY.out]), hb⟩
  by_cases k4 : p.kind = 4
  · have H := Lib.hid (show mayP l p = p.l.any (mayP l) by rw [HE.out, if_neg k1, if_neg k2, if_neg k3, if_pos k4])
    have d1 : (p.kind == 1) = false := by simp [k4]
    have d2 : (p.kind == 2) = false := by simp [k4]
    have d3 : (p.kind == 3) = false := by simp [k4]
    have d4 : (p.kind == 4) = true := by simp [k4]
    have d5 : (p.kind == 5) = false := by simp [k4]
    clear k1 k2 k3 k4
    go_enter Try.func23, Try.ntmps23
    go_wp2_with fail
    go_loopw [6] (fun i wr => ∃ k : Nat, i = .int .i64 k ∧ k ≤ p.l.length ∧ (p.l.take k).any (mayP l) = false ∧ wr.heap[w.heap.size]? = some (.cells #[.int .i64 p.kind, .int .i64 p.col, .int .i64 p.op, .int .i64 p.v.ty, .int .i64 p.v.n, .string p.v.s, .slice A p.l.length c] 28) ∧ Below w.heap.size w wr) (fun i _ => p.l.length - (intOf i).toNat)
    case atStart => exact ⟨0, rfl, by omega, by simp, heap_alloc_new w _, hb0.out⟩
    case round =>
      obtain ⟨k, rfl, hk, hall, hc, hb⟩ := hrel
      have Hall := Lib.hid hall
      have hg : w.heap.size < wr.heap.size := (Array.getElem?_eq_some_iff.1 hc).1
      have q6 := cell_of_row wr _ 6 _ _ _ hc
      have Hc := Lib.hid hc
      clear hall hc
      by_cases hkl : k < p.l.length
      · obtain ⟨b, off, x, sx, rfl, -, hbl, hxk, hat, hr⟩ := (hx.below hb hhi).at hkl
        obtain ⟨e0, e1, e2, e3, e4, e5, e6⟩ := hat
        have HN := Lib.hid (fun h => any_yes (f := mayP l) hxk h)
        have HY := Lib.hid (fun h => any_step (f := mayP l) hxk Hall.out h)
        have hC := Lib.hid (IHm.out k x hxk sx l _ wr lo hi l1 h1 hr (Nat.le_trans hhi hb.size) (hv.below hb hh1) (Nat.le_trans hh1 hb.size))
        clear hxk hr
        cases hh : mayP l x
        · rw [hh] at hC
          have HY := Lib.hid (HY.out hh)
          go_wp2_with fail
          refine hC.out.mono ?_
          rintro e w1 ⟨rfl, hb1⟩
          go_wp2_with fail
          go_roundw
          case rel => exact ⟨k + 1, by go_num, by omega, HY.out, (hb1.block _ hg).trans Hc.out, hb.trans (hb1.mono hb.size)⟩
          case measure => simp [intOf]; omega
        · rw [hh] at hC
          have HN := Lib.hid (HN.out hh)
          go_wp2_with fail
          refine hC.out.mono ?_
          rintro e w1 ⟨rfl, hb1⟩
          go_wp2_with fail
          go_ret
          exact ⟨ret_bool (by rw [H.out, HN.out]), hb.trans (hb1.mono hb.size)⟩
      · obtain rfl : k = p.l.length := by omega
        have HY := Lib.hid (any_end Hall.out)
        go_wp2_with fail
        go_ret
        exact ⟨ret_bool (by rw [H.out, HY.out]), hb⟩
  by_cases k5 : p.kind = 5
  · have H := Lib.hid (show mayP l p = fstP (failP l) p.l by rw [HE.out, if_neg k1, if_neg k2, if_neg k3, if_neg k4, if_pos k5])
    have d1 : (p.kind == 1) = false := by simp [k5]
    have d2 : (p.kind == 2) = false := by simp [k5]
    have d3 : (p.kind == 3) = false := by simp [k5]
    have d4 : (p.kind == 4) = false := by simp [k5]
    have d5 : (p.kind == 5) = true := by simp [k5]
    clear k1 k2 k3 k4 k5
    by_cases hl0 : p.l.length = 0
    · have hz0 : ((p.l.length : Int) == 0) = true := by simp; simpa using hl0
      have H := Lib.hid (show mayP l p = true by rw [H.out, List.eq_nil_of_length_eq_zero hl0]; rfl)
      clear hl0
      go_enter Try.func23, Try.ntmps23
      go_wp2_with fail
      go_ret
      exact ⟨ret_bool H.out.symm, hb0.out⟩
    · have hz0 : ((p.l.length : Int) == 0) = false := by simp; intro h; exact hl0 (by simp [h])
      have hpos : 0 < p.l.length := by omega
      obtain ⟨b, off, x, sx, rfl, -, hbl, hxk, hat, hr⟩ := (hx.below hb0.out hhi).at hpos
      have H := Lib.hid (H.out.trans (fstP_of hxk))
      obtain ⟨e0, e1, e2, e3, e4, e5, e6⟩ := hat
      simp only [Nat.zero_mul, Nat.add_zero] at e0 e1 e2 e3 e4 e5 e6
      have hC := Lib.hid (IHn.out 0 x hxk sx l _ _ lo hi l1 h1 hr (Nat.le_trans hhi hb0.out.size) (hv.below hb0.out hh1) (Nat.le_trans hh1 hb0.out.size))
      clear hxk hr hl0
      go_enter Try.func23, Try.ntmps23
      go_wp2_with fail
      refine hC.out.mono ?_
      rintro e w1 ⟨rfl, hb1⟩
      go_wp2_with fail
      go_ret
      exact ⟨ret_bool H.out.symm, below_a1 hb1⟩
  have H := Lib.hid (show mayP l p = false by rw [HE.out, if_neg k1, if_neg k2, if_neg k3, if_neg k4, if_neg k5])
  have d1 : (p.kind == 1) = false := by simp [k1]
  have d2 : (p.kind == 2) = false := by simp [k2]
  have d3 : (p.kind == 3) = false := by simp [k3]
  have d4 : (p.kind == 4) = false := by simp [k4]
  have d5 : (p.kind == 5) = false := by simp [k5]
  clear k1 k2 k3 k4 k5
  go_enter Try.func23, Try.ntmps23
  go_wp2_with fail
  go_ret
  exact ⟨ret_bool H.out.symm, hb0.out⟩
set_option maxRecDepth 20000 in
set_option maxHeartbeats 8000000 in
theorem spec_NotC_s (p : P) (IHm : ∀ (k : Nat) (x : P), p.l[k]? = some x → spec_MayC x) (IHn : ∀ (k : Nat) (x : P), p.l[k]? = some x → spec_NotC x) : spec_NotC p := by
  have IHm := Lib.hid IHm
  have IHn := Lib.hid IHn
  intro sv l lv w lo hi l1 h1 hx hhi hv hh1
  obtain ⟨A, c, rfl, hl, hl2⟩ := hx.form
  obtain ⟨A', c', rfl, hl', hl2'⟩ := hv.form
  have HE := Lib.hid (failP_eq l p)
  have hb0 := Lib.hid (up_a1 w (.cells #[.int .i64 p.kind, .int .i64 p.col, .int .i64 p.op, .int .i64 p.v.ty, .int .i64 p.v.n, .string p.v.s, .slice A p.l.length c] 28))
  have hw1 := Lib.hid (show IntKind.i64.wrap ((l.length : Int) - 1) = (l.length : Int) - 1 from IntWalk.i64_in _ ⟨by omega, by omega⟩)
  by_cases k1 : p.kind = 1
  · have H := Lib.hid (show failP l p = false by rw [HE.out, if_pos k1])
    have d1 : (p.kind == 1) = true := by simp [k1]
    have d2 : (p.kind == 2) = false := by simp [k1]
    have d3 : (p.kind == 3) = false := by simp [k1]
    have d4 : (p.kind == 4) = false := by simp [k1]
    have d5 : (p.kind == 5) = false := by simp [k1]
    clear k1
    go_enter Try.func48, Try.ntmps48
    go_wp2_with fail
    go_ret
    exact ⟨ret_bool H.out.symm, hb0.out⟩
  by_cases k2 : p.kind = 2
  · have H := Lib.hid (show failP l p = fcmpAt l p.col p.op p.v by rw [HE.out, if_neg k1, if_pos k2])
    have d1 : (p.kind == 1) = false := by simp [k2]
    have d2 : (p.kind == 2) = true := by simp [k2]
    have d3 : (p.kind == 3) = false := by simp [k2]
    have d4 : (p.kind == 4) = false := by simp [k2]
    have d5 : (p.kind == 5) = false := by simp [k2]
    clear k1 k2
    have n1 := box_new w #[.int .i64 p.kind, .int .i64 p.col, .int .i64 p.op, .int .i64 p.v.ty, .int .i64 p.v.n, .string p.v.s, .slice A p.l.length c] 28 1
    have n2 := box_new w #[.int .i64 p.kind, .int .i64 p.col, .int .i64 p.op, .int .i64 p.v.ty, .int .i64 p.v.n, .string p.v.s, .slice A p.l.length c] 28 2
    have n3 := box_new w #[.int .i64 p.kind, .int .i64 p.col, .int .i64 p.op, .int .i64 p.v.ty, .int .i64 p.v.n, .string p.v.s, .slice A p.l.length c] 28 3
    have n4 := box_new w #[.int .i64 p.kind, .int .i64 p.col, .int .i64 p.op, .int .i64 p.v.ty, .int .i64 p.v.n, .string p.v.s, .slice A p.l.length c] 28 4
    have n5 := box_new w #[.int .i64 p.kind, .int .i64 p.col, .int .i64 p.op, .int .i64 p.v.ty, .int .i64 p.v.n, .string p.v.s, .slice A p.l.length c] 28 5
    simp only [List.getElem?_toArray, List.getElem?_cons_zero, List.getElem?_cons_succ] at n1 n2 n3 n4 n5
    generalize hcol : p.col = col at *
    cases hI : inR col 0 ((l.length : Int) - 1)
    · have H := Lib.hid (H.out.trans (fcmpAt_out hI))
      have hw1 := hw1.out
      go_enter Try.func48, Try.ntmps48
      go_wp2_with fail
      have q_0 := cell_regrown (w := (w.alloc (.cells #[.int .i64 p.kind, .int .i64 col, .int .i64 p.op, .int .i64 p.v.ty, .int .i64 p.v.n, .string p.v.s, .slice A p.l.length c] 28))) n1
      refine wp_region_quiet_below (by kernel_rfl) (by kernel_rfl) ?_
      repeat (go_big_quiet_step (first | (go_at_call 34; exact Calls.regrown_of ((c_spec_l1In _ _ _ _).mono fun e w' h => ⟨hI ▸ h.1, h.2⟩))))
      refine wpQuiet_nil ?_
      intro wq hw'
      obtain ⟨⟨dq, osq⟩, hw''⟩ := hw'
      have hbq := below_regrown (w.alloc (.cells #[.int .i64 p.kind, .int .i64 col, .int .i64 p.op, .int .i64 p.v.ty, .int .i64 p.v.n, .string p.v.s, .slice A p.l.length c] 28)) dq osq
      rw [← hw''] at hbq
      clear hw''
      clear q_0
      go_wp2_with fail
      go_ret
      exact ⟨ret_bool H.out.symm, below_a1 hbq⟩
    · obtain ⟨j0, j1⟩ := inR_yes hI
      obtain ⟨j, rfl⟩ : ∃ j : Nat, col = (j : Int) := ⟨col.toNat, by omega⟩
      have hjl : j < l.length := by omega
      have g2 : decide ((j : Int) < 0) = false := decide_eq_false (by omega)
      have g3 : decide ((l.length : Int) ≤ (j : Int)) = false := decide_eq_false (by omega)
      have g4 : decide (l.length ≤ j) = false := decide_eq_false (by omega)
      obtain ⟨b, off, x, rfl, -, hbl, hxk, e0, e1, e2, e3, e4, e5⟩ := (hv.below hb0.out hh1).at hjl
      have H := Lib.hid (H.out.trans (fcmpAt_in hxk))
      have hw1 := hw1.out
      clear hxk j0 j1
      go_enter Try.func48, Try.ntmps48
      go_wp2_with fail
      have q_0 := cell_regrown (w := (w.alloc (.cells #[.int .i64 p.kind, .int .i64 (j : Int), .int .i64 p.op, .int .i64 p.v.ty, .int .i64 p.v.n, .string p.v.s, .slice A p.l.length c] 28))) n1
      have q_1 := cell_regrown (w := (w.alloc (.cells #[.int .i64 p.kind, .int .i64 (j : Int), .int .i64 p.op, .int .i64 p.v.ty, .int .i64 p.v.n, .string p.v.s, .slice A p.l.length c] 28))) n2
      have q_2 := cell_regrown (w := (w.alloc (.cells #[.int .i64 p.kind, .int .i64 (j : Int), .int .i64 p.op, .int .i64 p.v.ty, .int .i64 p.v.n, .string p.v.s, .slice A p.l.length c] 28))) n3
      have q_3 := cell_regrown (w := (w.alloc (.cells #[.int .i64 p.kind, .int .i64 (j : Int), .int .i64 p.op, .int .i64 p.v.ty, .int .i64 p.v.n, .string p.v.s, .slice A p.l.length c] 28))) n4
      have q_4 := cell_regrown (w := (w.alloc (.cells #[.int .i64 p.kind, .int .i64 (j : Int), .int .i64 p.op, .int .i64 p.v.ty, .int .i64 p.v.n, .string p.v.s, .slice A p.l.length c] 28))) n5
      have q_5 := cell_regrown (w := (w.alloc (.cells #[.int .i64 p.kind, .int .i64 (j : Int), .int .i64 p.op, .int .i64 p.v.ty, .int .i64 p.v.n, .string p.v.s, .slice A p.l.length c] 28))) e0
      have q_6 := cell_regrown (w := (w.alloc (.cells #[.int .i64 p.kind, .int .i64 (j : Int), .int .i64 p.op, .int .i64 p.v.ty, .int .i64 p.v.n, .string p.v.s, .slice A p.l.length c] 28))) e1
      have q_7 := cell_regrown (w := (w.alloc (.cells #[.int .i64 p.kind, .int .i64 (j : Int), .int .i64 p.op, .int .i64 p.v.ty, .int .i64 p.v.n, .string p.v.s, .slice A p.l.length c] 28))) e2
      have q_8 := cell_regrown (w := (w.alloc (.cells #[.int .i64 p.kind, .int .i64 (j : Int), .int .i64 p.op, .int .i64 p.v.ty, .int .i64 p.v.n, .string p.v.s, .slice A p.l.length c] 28))) e3
      have q_9 := cell_regrown (w := (w.alloc (.cells #[.int .i64 p.kind, .int .i64 (j : Int), .int .i64 p.op, .int .i64 p.v.ty, .int .i64 p.v.n, .string p.v.s, .slice A p.l.length c] 28))) e4
      have q_10 := cell_regrown (w := (w.alloc (.cells #[.int .i64 p.kind, .int .i64 (j : Int), .int .i64 p.op, .int .i64 p.v.ty, .int .i64 p.v.n, .string p.v.s, .slice A p.l.length c] 28))) e5
      refine wp_region_quiet_below (by kernel_rfl) (by kernel_rfl) ?_
      repeat (go_big_quiet_step (first | (go_at_call 34; exact Calls.regrown_of ((c_spec_l1In _ _ _ _).mono fun e w' h => ⟨hI ▸ h.1, h.2⟩)) | (go_at_call 70; exact Calls.regrown_of (spec_Opposite p.op _)) | (go_at_call 47; exact Calls.regrown_of (spec_MayHold1 (opposite p.op) x p.v _))))
      refine wpQuiet_nil ?_
      intro wq hw'
      obtain ⟨⟨dq, osq⟩, hw''⟩ := hw'
      have hbq := below_regrown (w.alloc (.cells #[.int .i64 p.kind, .int .i64 (j : Int), .int .i64 p.op, .int .i64 p.v.ty, .int .i64 p.v.n, .string p.v.s, .slice A p.l.length c] 28)) dq osq
      rw [← hw''] at hbq
      clear hw''
      clear q_0 q_1 q_2 q_3 q_4 q_5 q_6 q_7 q_8 q_9 q_10
      go_wp2_with fail
      go_ret
      exact ⟨ret_bool H.out.symm, below_a1 hbq⟩
  by_cases k3 : p.kind = 3
  · have H := Lib.hid (show failP l p = p.l.any (failP l) by rw [HE.out, if_neg k1, if_neg k2, if_pos k3])
    have d1 : (p.kind == 1) = false := by simp [k3]
    have d2 : (p.kind == 2) = false := by simp [k3]
    have d3 : (p.kind == 3) = true := by simp [k3]
    have d4 : (p.kind == 4) = false := by simp [k3]
    have d5 : (p.kind == 5) = false := by simp [k3]
    clear k1 k2 k3
    go_enter Try.func48, Try.ntmps48
    go_wp2_with fail
    go_loopw [5] (fun i wr => ∃ k : Nat, i = .int .i64 k ∧ k ≤ p.l.length ∧ (p.l.take k).any (failP l) = false ∧ wr.heap[w.heap.size]? = some (.cells #[.int .i64 p.kind, .int .i64 p.col, .int .i64 p.op, .int .i64 p.v.ty, .int .i64 p.v.n, .string p.v.s, .slice A p.l.length c] 28) ∧ Below w.heap.size w wr) (fun i _ => p.l.length - (intOf i).toNat)
    case atStart => exact ⟨0, rfl, by omega, by simp, heap_alloc_new w _, hb0.out⟩
    case round =>
      obtain ⟨k, rfl, hk, hall, hc, hb⟩ := hrel
      have Hall := Lib.hid hall
      have hg : w.heap.size < wr.heap.size := (Array.getElem?_eq_some_iff.1 hc).1
      have q6 := cell_of_row wr _ 6 _ _ _ hc
      have Hc := Lib.hid hc
      clear hall hc
      by_cases hkl : k < p.l.length
      · obtain ⟨b, off, x, sx, rfl, -, hbl, hxk, hat, hr⟩ := (hx.below hb hhi).at hkl
        obtain ⟨e0, e1, e2, e3, e4, e5, e6⟩ := hat
        have HN := Lib.hid (fun h => any_yes (f := failP l) hxk h)
        have HY := Lib.hid (fun h => any_step (f := failP l) hxk Hall.out h)
        have hC := Lib.hid (IHn.out k x hxk sx l _ wr lo hi l1 h1 hr (Nat.le_trans hhi hb.size) (hv.below hb hh1) (Nat.le_trans hh1 hb.size))
        clear hxk hr
        cases hh : failP l x
        · rw [hh] at hC
          have HY := Lib.hid (HY.out hh)
          go_wp2_with fail
          refine hC.out.mono ?_
          rintro e w1 ⟨rfl, hb1⟩
          go_wp2_with fail
          go_roundw
          case rel => exact ⟨k + 1, by go_num, by omega, HY.out, (hb1.block _ hg).trans Hc.out, hb.trans (hb1.mono hb.size)⟩
          case measure => simp [intOf]; omega
        · rw [hh] at hC
          have HN := Lib.hid (HN.out hh)
          go_wp2_with fail
          refine hC.out.mono ?_
          rintro e w1 ⟨rfl, hb1⟩
          go_wp2_with fail
          go_ret
          exact ⟨ret_bool (by rw [H.out, HN.out]), hb.trans (hb1.mono hb.size)⟩
      · obtain rfl : k = p.l.length := by omega
        have HY := Lib.hid (any_end Hall.out)
        go_wp2_with fail
        go_ret
        exact ⟨ret_bool (by rw [H.out, HY.out]), hb⟩
  by_cases k4 : p.kind = 4
  · have H := Lib.hid (show failP l p = p.l.all (failP l) by rw [HE.out, if_neg k1, if_neg k2, if_neg k3, if_pos k4])
    have d1 : (p.kind == 1) = false := by simp [k4]
    have d2 : (p.kind == 2) = false := by simp [k4]
    have d3 : (p.kind == 3) = false := by simp [k4]
    have d4 : (p.kind == 4) = true := by simp [k4]
    have d5 : (p.kind == 5) = false := by simp [k4]
    clear k1 k2 k3 k4
    go_enter Try.func48, Try.ntmps48
    go_wp2_with fail
    go_loopw [6] (fun i wr => ∃ k : Nat, i = .int .i64 k ∧ k ≤ p.l.length ∧ (p.l.take k).all (failP l) = true ∧ wr.heap[w.heap.size]? = some (.cells #[.int .i64 p.kind, .int .i64 p.col, .int .i64 p.op, .int .i64 p.v.ty, .int .i64 p.v.n, .string p.v.s, .slice A p.l.length c] 28) ∧ Below w.heap.size w wr) (fun i _ => p.l.length - (intOf i).toNat)
    case atStart => exact ⟨0, rfl, by omega, by simp, heap_alloc_new w _, hb0.out⟩
    case round =>
      obtain ⟨k, rfl, hk, hall, hc, hb⟩ := hrel
      have Hall := Lib.hid hall
      have hg : w.heap.size < wr.heap.size := (Array.getElem?_eq_some_iff.1 hc).1
      have q6 := cell_of_row wr _ 6 _ _ _ hc
      have Hc := Lib.hid hc
      clear hall hc
      by_cases hkl : k < p.l.length
      · obtain ⟨b, off, x, sx, rfl, -, hbl, hxk, hat, hr⟩ := (hx.below hb hhi).at hkl
        obtain ⟨e0, e1, e2, e3, e4, e5, e6⟩ := hat
        have HN := Lib.hid (fun h => all_no (f := failP l) hxk h)
        have HY := Lib.hid (fun h => all_step (f := failP l) hxk Hall.out h)
        have hC := Lib.hid (IHn.out k x hxk sx l _ wr lo hi l1 h1 hr (Nat.le_trans hhi hb.size) (hv.below hb hh1) (Nat.le_trans hh1 hb.size))
        clear hxk hr
        cases hh : failP l x
        · rw [hh] at hC
          have HN := Lib.hid (HN.out hh)
          go_wp2_with fail
          refine hC.out.mono ?_
          rintro e w1 ⟨rfl, hb1⟩
          go_wp2_with fail
          go_ret
          exact ⟨ret_bool (by rw [H.out, HN.out]), hb.trans (hb1.mono hb.size)⟩
        · rw [hh] at hC
          have HY := Lib.hid (HY.out hh)
          go_wp2_with fail
          refine hC.out.mono ?_
          rintro e w1 ⟨rfl, hb1⟩
          go_wp2_with fail
          go_roundw
          case rel => exact ⟨k + 1, by go_num, by omega, HY.out, (hb1.block _ hg).trans Hc.out, hb.trans (hb1.mono hb.size)⟩
          case measure => simp [intOf]; omega
      · obtain rfl : k = p.l.length := by omega
        have HY := Lib.hid (all_end Hall.out)
        go_wp2_with fail
        go_ret
        exact ⟨ret_bool (by rw [H.out, HY.out]), hb⟩
  by_cases k5 : p.kind = 5
  · have H := Lib.hid (show failP l p = fstP (mayP l) p.l by rw [HE.out, if_neg k1, if_neg k2, if_neg k3, if_neg k4, if_pos k5])
    have d1 : (p.kind == 1) = false := by simp [k5]
    have d2 : (p.kind == 2) = false := by simp [k5]
    have d3 : (p.kind == 3) = false := by simp [k5]
    have d4 : (p.kind == 4) = false := by simp [k5]
    have d5 : (p.kind == 5) = true := by simp [k5]
    clear k1 k2 k3 k4 k5
    by_cases hl0 : p.l.length = 0
    · have hz0 : ((p.l.length : Int) == 0) = true := by simp; simpa using hl0
      have H := Lib.hid (show failP l p = true by rw [H.out, List.eq_nil_of_length_eq_zero hl0]; rfl)
      clear hl0
      go_enter Try.func48, Try.ntmps48
      go_wp2_with fail
      go_ret
      exact ⟨ret_bool H.out.symm, hb0.out⟩
    · have hz0 : ((p.l.length : Int) == 0) = false := by simp; intro h; exact hl0 (by simp [h])
      have hpos : 0 < p.l.length := by omega
      obtain ⟨b, off, x, sx, rfl, -, hbl, hxk, hat, hr⟩ := (hx.below hb0.out hhi).at hpos
      have H := Lib.hid (H.out.trans (fstP_of hxk))
      obtain ⟨e0, e1, e2, e3, e4, e5, e6⟩ := hat
      simp only [Nat.zero_mul, Nat.add_zero] at e0 e1 e2 e3 e4 e5 e6
      have hC := Lib.hid (IHm.out 0 x hxk sx l _ _ lo hi l1 h1 hr (Nat.le_trans hhi hb0.out.size) (hv.below hb0.out hh1) (Nat.le_trans hh1 hb0.out.size))
      clear hxk hr hl0
      go_enter Try.func48, Try.ntmps48
      go_wp2_with fail
      refine hC.out.mono ?_
      rintro e w1 ⟨rfl, hb1⟩
      go_wp2_with fail
      go_ret
      exact ⟨ret_bool H.out.symm, below_a1 hb1⟩
  have H := Lib.hid (show failP l p = true by rw [HE.out, if_neg k1, if_neg k2, if_neg k3, if_neg k4, if_neg k5])
  have d1 : (p.kind == 1) = false := by simp [k1]
  have d2 : (p.kind == 2) = false := by simp [k2]
  have d3 : (p.kind == 3) = false := by simp [k3]
  have d4 : (p.kind == 4) = false := by simp [k4]
  have d5 : (p.kind == 5) = false := by simp [k5]
  clear k1 k2 k3 k4 k5
  go_enter Try.func48, Try.ntmps48
  go_wp2_with fail
  go_ret
  exact ⟨ret_bool H.out.symm, hb0.out⟩
theorem spec_May_n : ∀ (N : Nat) (p : P), SizeOf.sizeOf p < N → spec_MayC p ∧ spec_NotC p
  | 0, _, h => absurd h (Nat.not_lt_zero _)
  | N + 1, p, hN => by
    have hm : ∀ (k : Nat) (x : P), p.l[k]? = some x → spec_MayC x := fun k x hx => (spec_May_n N x (by have := P.get_lt hx; omega)).1
    have hn : ∀ (k : Nat) (x : P), p.l[k]? = some x → spec_NotC x := fun k x hx => (spec_May_n N x (by have := P.get_lt hx; omega)).2
    exact ⟨spec_MayC_s p hm hn, spec_NotC_s p hm hn⟩
theorem spec_MayHold (p : P) (sv : Value) (l : List Z) (lv : Value) (w : World) {lo hi l1 h1 : Nat} (hx : RdP w lo hi sv p.l) (hhi : hi ≤ w.heap.size) (hv : RdZ w l1 h1 lv l) (hh1 : h1 ≤ w.heap.size) :
    Calls Try.prog 23 #[.agg #[.int .i64 p.kind, .int .i64 p.col, .int .i64 p.op, .int .i64 p.v.ty, .int .i64 p.v.n, .string p.v.s, sv], lv] w fun e w' => e = .returned (.bool (mayP l p)) ∧ Below w.heap.size w w' :=
  (spec_May_n _ p (Nat.lt_succ_self _)).1 sv l lv w lo hi l1 h1 hx hhi hv hh1
end Go.Proofs.Ytidmlfjolhnnfaa
