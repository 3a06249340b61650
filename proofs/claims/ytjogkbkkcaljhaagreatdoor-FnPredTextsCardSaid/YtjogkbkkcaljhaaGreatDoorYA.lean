/- The laws' helpers for predicates: sizes: contracts. -/
import Derived.Test.YtjogkbkkcaljhaaGreatDoorMemP
import Derived.Test.YtjogkbkkcaljhaaGreatDoorXL
import Derived.Test.YtjogkbkkcaljhaaGreatDoorYE
import Derived.Test.YtjogkbkkcaljhaaGreatDoorS30
import Derived.Deep.CutRange
namespace Go.Lb
/-- How many predicates a list holds, all told. -/
def cntP : List P → Nat
  | [] => 0
  | (.mk _ _ _ _ l) :: r => 1 + cntP l + cntP r
termination_by l => SizeOf.sizeOf l
decreasing_by all_goals (simp; try omega)
theorem cntP_cons (p : P) (r : List P) : cntP (p :: r) = 1 + cntP p.l + cntP r := by cases p; rw [cntP]; rfl
theorem cntP_nil : cntP [] = 0 := by rw [cntP]
theorem cntP_append (a b : List P) : cntP (a ++ b) = cntP a + cntP b := by
  induction a with
  | nil => simp [cntP_nil]
  | cons x a ih => rw [List.cons_append, cntP_cons, cntP_cons, ih]; omega
theorem cntP_len (l : List P) : l.length ≤ cntP l := by
  induction l with
  | nil => simp
  | cons x l ih => rw [cntP_cons, List.length_cons]; omega
theorem cntP_take {l : List P} {k : Nat} {x : P} (h : l[k]? = some x) : cntP (l.take (k + 1)) = cntP (l.take k) + (1 + cntP x.l) ∧ cntP (l.take (k + 1)) ≤ cntP l := by
  refine ⟨by rw [take_of_get h, cntP_append, cntP_cons, cntP_nil]; omega, ?_⟩
  have h2 := cntP_append (l.take (k + 1)) (l.drop (k + 1))
  rw [List.take_append_drop] at h2
  omega
end Go.Lb
namespace Go.Proofs.YtjogkbkkcaljhaaGreatDoor
open Go.Sort Go.ChangeShapes Go.WideShapes Go.ChangeAt Go.RowKit Go.Lb

end Go.Proofs.YtjogkbkkcaljhaaGreatDoor
namespace Go.Lb
def bareP (p : P) : Bool := (p.col == 0) && ((p.op == 0) && eqd p.v V.zero)
def cmpOk (cols : List Int) (col op : Int) (v : V) (n : Nat) : Bool := inR col 0 ((cols.length : Int) - 1) && (valOk v && ((match cols[col.toNat]? with | some c => v.ty == c | none => false) && (inR op 1 6 && decide (n = 0))))
def formOk (cols : List Int) (p : P) : Bool :=
  if p.kind = 1 then bareP p && decide (p.l.length = 0)
  else if p.kind = 2 then cmpOk cols p.col p.op p.v p.l.length
  else if p.kind = 3 then bareP p && inR (p.l.length : Int) 1 4
  else if p.kind = 4 then bareP p && inR (p.l.length : Int) 1 4
  else if p.kind = 5 then bareP p && decide (p.l.length = 1) else false
def deepOk (cols : List Int) : Nat → P → Bool
  | 0, _ => false
  | k + 1, p => formOk cols p && p.l.all (deepOk cols k)
theorem bare_cases (p : P) : (bareP p = false ∧ (p.col == 0) = false) ∨ (bareP p = false ∧ (p.col == 0) = true ∧ (p.op == 0) = false) ∨ (bareP p = false ∧ (p.col == 0) = true ∧ (p.op == 0) = true ∧ eqd p.v V.zero = false) ∨ (bareP p = true ∧ (p.col == 0) = true ∧ (p.op == 0) = true ∧ eqd p.v V.zero = true) := by
  unfold bareP
  cases p.col == 0 <;> cases p.op == 0 <;> cases eqd p.v V.zero <;> simp
theorem formOk_1 {cols : List Int} {p : P} (h : p.kind = 1) : formOk cols p = (bareP p && decide (p.l.length = 0)) := by simp [formOk, h]
theorem formOk_2 {cols : List Int} {p : P} (h : p.kind = 2) : formOk cols p = cmpOk cols p.col p.op p.v p.l.length := by simp [formOk, h]
theorem formOk_3 {cols : List Int} {p : P} (h : p.kind = 3) : formOk cols p = (bareP p && inR (p.l.length : Int) 1 4) := by simp [formOk, h]
theorem formOk_4 {cols : List Int} {p : P} (h : p.kind = 4) : formOk cols p = (bareP p && inR (p.l.length : Int) 1 4) := by simp [formOk, h]
theorem formOk_5 {cols : List Int} {p : P} (h : p.kind = 5) : formOk cols p = (bareP p && decide (p.l.length = 1)) := by simp [formOk, h]
theorem formOk_len {cols : List Int} {p : P} (h : formOk cols p = true) : p.l.length ≤ 4 := by
  unfold formOk cmpOk at h
  split at h
  · simp at h; simp [h.2]
  · split at h
    · simp at h; simp [h.2.2.2.2]
    · split at h
      · simp at h; have := inR_yes h.2; omega
      · split at h
        · simp at h; have := inR_yes h.2; omega
        · split at h
          · simp at h; omega
          · cases h
theorem cmpOk_at {cols : List Int} {j : Nat} {c op : Int} {v : V} {n : Nat} (h : cols[j]? = some c) : cmpOk cols (j : Int) op v n = (valOk v && ((v.ty == c) && (inR op 1 6 && decide (n = 0)))) := by
  have hj := (List.getElem?_eq_some_iff.1 h).1
  unfold cmpOk
  rw [inR_of (by omega) (by omega)]
  simp [h]
theorem cmpOk_out {cols : List Int} {col op : Int} {v : V} {n : Nat} (h : inR col 0 ((cols.length : Int) - 1) = false) : cmpOk cols col op v n = false := by
  unfold cmpOk
  rw [h]; rfl
theorem deep_no {cols : List Int} {k i : Nat} {p x : P} (h : p.l[i]? = some x) (hx : deepOk cols k x = false) : deepOk cols (k + 1) p = false := by
  rw [deepOk, all_no h hx]; simp
theorem deep_end {cols : List Int} {k : Nat} {p : P} (h : (p.l.take p.l.length).all (deepOk cols k) = true) : deepOk cols (k + 1) p = formOk cols p := by
  rw [deepOk, all_end h]; simp
end Go.Lb
namespace Go.Proofs.YtjogkbkkcaljhaaGreatDoor
open Go.Sort Go.ChangeShapes Go.WideShapes Go.ChangeAt Go.RowKit Go.Lb

theorem eql_zero (x : V) (w : World) : (binOp .eql 24 (.agg #[.int .i64 x.ty, .int .i64 x.n, .string x.s]) (.agg #[.int .i64 0, .int .i64 0, .string ⟨#[]⟩])).run Tryz.prog w = .ok (.bool (eqd x V.zero)) w := eql_V x V.zero w
set_option maxRecDepth 20000 in
set_option maxHeartbeats 16000000 in
theorem spec_l11Deep (cols : List Int) (cv : Value) : ∀ (k : Nat) (p : P) (d : Int), d = 5 - (k : Int) → k ≤ 4 → POk p → ∀ (sv : Value) (w : World) (lo hi l1 h1 : Nat), RdP w lo hi sv p.l → hi ≤ w.heap.size → RdI w l1 h1 cv cols → h1 ≤ w.heap.size →
    Calls Tryz.prog 48 #[cv, .agg #[.int .i64 p.kind, .int .i64 p.col, .int .i64 p.op, .int .i64 p.v.ty, .int .i64 p.v.n, .string p.v.s, sv], .int .i64 d] w fun e w' => e = .returned (.bool (deepOk cols k p)) ∧ Below w.heap.size w w'
  | 0, p, d, hd, _, _ => by
    intro sv w lo hi l1 h1 hx hhi hc hh1
    obtain rfl : d = 5 := by omega
    clear hd
    have H := Lib.hid (show deepOk cols 0 p = false from rfl)
    have hb0 := Lib.hid (up_a1 w (.cells #[.int .i64 p.kind, .int .i64 p.col, .int .i64 p.op, .int .i64 p.v.ty, .int .i64 p.v.n, .string p.v.s, sv] 27))
    go_enter Tryz.func48, Tryz.ntmps48
    go_wp2_with fail
    go_ret
    exact ⟨ret_bool H.out.symm, hb0.out⟩
  | k + 1, p, d, hd, hk4, hok => by
    have IH := Lib.hid (spec_l11Deep cols cv k)
    have Hd := Lib.hid hd
    intro sv w lo hi l1 h1 hx hhi hc hh1
    obtain ⟨A, c, rfl, hl, hl2⟩ := hx.form
    obtain ⟨Ac, cc, rfl, hcl, hcl2⟩ := hc.form
    have hb0 := Lib.hid (up_a1 w (.cells #[.int .i64 p.kind, .int .i64 p.col, .int .i64 p.op, .int .i64 p.v.ty, .int .i64 p.v.n, .string p.v.s, .slice A p.l.length c] 27))
    have hgt : decide (4 < d) = false := decide_eq_false (by omega)
    have hwd : IntKind.i64.wrap (d + 1) = d + 1 := IntWalk.i64_in _ ⟨by omega, by omega⟩
    have hwc : IntKind.i64.wrap ((cols.length : Int) - 1) = (cols.length : Int) - 1 := IntWalk.i64_in _ ⟨by omega, by omega⟩
    clear hd
    have HOk := Lib.hid hok.2
    have he := eql_zero p.v
    have hgd := guard_V
    go_enter Tryz.func48, Tryz.ntmps48
    go_wp2_with fail
    go_loopw [7] (fun i wr => ∃ q : Nat, i = .int .i64 q ∧ q ≤ p.l.length ∧ (p.l.take q).all (deepOk cols k) = true ∧ wr.heap[w.heap.size]? = some (.cells #[.int .i64 p.kind, .int .i64 p.col, .int .i64 p.op, .int .i64 p.v.ty, .int .i64 p.v.n, .string p.v.s, .slice A p.l.length c] 27) ∧ Below w.heap.size w wr) (fun i _ => p.l.length - (intOf i).toNat)
    case atStart => exact ⟨0, rfl, by omega, by simp, heap_alloc_new w _, hb0.out⟩
    case round =>
      obtain ⟨q, rfl, hq, hall, hcb, hb⟩ := hrel
      have Hall := Lib.hid hall
      have hg : w.heap.size < wr.heap.size := (Array.getElem?_eq_some_iff.1 hcb).1
      have q0 := cell_of_row wr _ 0 _ _ _ hcb
      have q1 := cell_of_row wr _ 1 _ _ _ hcb
      have q2 := cell_of_row wr _ 2 _ _ _ hcb
      have q3 := cell_of_row wr _ 3 _ _ _ hcb
      have q4 := cell_of_row wr _ 4 _ _ _ hcb
      have q5 := cell_of_row wr _ 5 _ _ _ hcb
      have q6 := cell_of_row wr _ 6 _ _ _ hcb
      simp only [List.getElem?_toArray, List.getElem?_cons_zero, List.getElem?_cons_succ] at q0 q1 q2 q3 q4 q5 q6
      have Hcb := Lib.hid hcb
      clear hall hcb
      by_cases hql : q < p.l.length
      · obtain ⟨b, off, x, sx, rfl, -, hbl, hxk, hat, hr⟩ := (hx.below hb hhi).at hql
        obtain ⟨e0, e1, e2, e3, e4, e5, e6⟩ := hat
        have HN := Lib.hid (fun h => deep_no (cols := cols) (k := k) hxk h)
        have HY := Lib.hid (fun h => all_step (f := deepOk cols k) hxk Hall.out h)
        have hC := Lib.hid (IH.out x (d + 1) (by have := Hd.out; omega) (by omega) (HOk.out.get hxk) sx wr lo hi l1 h1 hr (Nat.le_trans hhi hb.size) (hc.below hb hh1) (Nat.le_trans hh1 hb.size))
        clear hxk hr
        cases hh : deepOk cols k x
        · rw [hh] at hC
          have HN := Lib.hid (HN.out hh)
          go_wp2_with fail
          refine hC.out.mono ?_
          rintro e w1 ⟨rfl, hb1⟩
          go_wp2_with fail
          go_ret
          exact ⟨ret_bool HN.out.symm, hb.trans (hb1.mono hb.size)⟩
        · rw [hh] at hC
          have HY := Lib.hid (HY.out hh)
          go_wp2_with fail
          refine hC.out.mono ?_
          rintro e w1 ⟨rfl, hb1⟩
          go_wp2_with fail
          go_roundw
          case rel => exact ⟨q + 1, by go_num, by omega, HY.out, (hb1.block _ hg).trans Hcb.out, hb.trans (hb1.mono hb.size)⟩
          case measure => simp [intOf]; omega
      · obtain rfl : q = p.l.length := by omega
        have HX := Lib.hid (deep_end (cols := cols) (k := k) Hall.out)
        go_upto_region 8 with fail
        go_cut [8] from 28 to 41 (fun s wx => s = .bool (bareP p) ∧ wx = wr)
        case first =>
          rcases bare_cases p with ⟨hB, b1⟩ | ⟨hB, b1, b2⟩ | ⟨hB, b1, b2, b3⟩ | ⟨hB, b1, b2, b3⟩
          all_goals
            have HB := Lib.hid hB
            try rw [b3] at he
            clear hB
            try clear b3
            go_wp2_with fail
            go_meet
            exact ⟨by rw [HB.out], rfl⟩
        case rest =>
          obtain ⟨rfl, rfl⟩ := hcut
          obtain ⟨B, hB⟩ : ∃ B, bareP p = B := ⟨_, rfl⟩
          have HB := Lib.hid hB
          rw [hB]
          clear hB
          by_cases k1 : p.kind = 1
          · have F := Lib.hid (formOk_1 (cols := cols) k1)
            have d1 : (p.kind == 1) = true := by simp [k1]
            have d2 : (p.kind == 2) = false := by simp [k1]
            have d3 : (p.kind == 3) = false := by simp [k1]
            have d4 : (p.kind == 4) = false := by simp [k1]
            have d5 : (p.kind == 5) = false := by simp [k1]
            clear k1
            cases B
            · have F := Lib.hid (show formOk cols p = false by rw [F.out, HB.out]; rfl)
              go_wp2_with fail
              go_ret
              exact ⟨ret_bool (by rw [HX.out, F.out]), hb⟩
            · by_cases hz : p.l.length = 0
              · have hz0 : ((p.l.length : Int) == 0) = true := by rw [hz]; rfl
                have F := Lib.hid (show formOk cols p = true by rw [F.out, HB.out, hz]; rfl)
                clear hz
                go_wp2_with fail
                go_ret
                exact ⟨ret_bool (by rw [HX.out, F.out]), hb⟩
              · have hz0 : ((p.l.length : Int) == 0) = false := beq_eq_false_iff_ne.2 (by omega)
                have F := Lib.hid (show formOk cols p = false by rw [F.out, HB.out]; simp [hz])
                clear hz
                go_wp2_with fail
                go_ret
                exact ⟨ret_bool (by rw [HX.out, F.out]), hb⟩
          by_cases k5 : p.kind = 5
          · have F := Lib.hid (formOk_5 (cols := cols) k5)
            have d1 : (p.kind == 1) = false := by simp [k5]
            have d2 : (p.kind == 2) = false := by simp [k5]
            have d3 : (p.kind == 3) = false := by simp [k5]
            have d4 : (p.kind == 4) = false := by simp [k5]
            have d5 : (p.kind == 5) = true := by simp [k5]
            clear k5
            cases B
            · have F := Lib.hid (show formOk cols p = false by rw [F.out, HB.out]; rfl)
              go_wp2_with fail
              go_ret
              exact ⟨ret_bool (by rw [HX.out, F.out]), hb⟩
            · by_cases hz : p.l.length = 1
              · have hz0 : ((p.l.length : Int) == 1) = true := by rw [hz]; rfl
                have F := Lib.hid (show formOk cols p = true by rw [F.out, HB.out, hz]; rfl)
                clear hz
                go_wp2_with fail
                go_ret
                exact ⟨ret_bool (by rw [HX.out, F.out]), hb⟩
              · have hz0 : ((p.l.length : Int) == 1) = false := beq_eq_false_iff_ne.2 (by omega)
                have F := Lib.hid (show formOk cols p = false by rw [F.out, HB.out]; simp [hz])
                clear hz
                go_wp2_with fail
                go_ret
                exact ⟨ret_bool (by rw [HX.out, F.out]), hb⟩
          by_cases k3 : p.kind = 3
          · have F := Lib.hid (formOk_3 (cols := cols) k3)
            have d1 : (p.kind == 1) = false := by simp [k3]
            have d2 : (p.kind == 2) = false := by simp [k3]
            have d3 : (p.kind == 3) = true := by simp [k3]
            have d4 : (p.kind == 4) = false := by simp [k3]
            have d5 : (p.kind == 5) = false := by simp [k3]
            clear k3
            cases B
            · have F := Lib.hid (show formOk cols p = false by rw [F.out, HB.out]; rfl)
              go_wp2_with fail
              go_ret
              exact ⟨ret_bool (by rw [HX.out, F.out]), hb⟩
            · cases hr : inR (p.l.length : Int) 1 4
              all_goals
                have F := Lib.hid (by have h := F.out; rw [hr, HB.out] at h; exact h)
                go_wp2_with fail
                first
                | (go_ret; exact ⟨ret_bool (by rw [HX.out, F.out]; rfl), hb⟩)
                | (refine (q_spec_l1In _ _ _ _).mono ?_; rintro e w1 ⟨rfl, rfl⟩; rw [hr]; go_wp2_with fail; go_ret; exact ⟨ret_bool (by rw [HX.out, F.out]; rfl), hb⟩)
          by_cases k4 : p.kind = 4
          · have F := Lib.hid (formOk_4 (cols := cols) k4)
            have d1 : (p.kind == 1) = false := by simp [k4]
            have d2 : (p.kind == 2) = false := by simp [k4]
            have d3 : (p.kind == 3) = false := by simp [k4]
            have d4 : (p.kind == 4) = true := by simp [k4]
            have d5 : (p.kind == 5) = false := by simp [k4]
            clear k4
            cases B
            · have F := Lib.hid (show formOk cols p = false by rw [F.out, HB.out]; rfl)
              go_wp2_with fail
              go_ret
              exact ⟨ret_bool (by rw [HX.out, F.out]), hb⟩
            · cases hr : inR (p.l.length : Int) 1 4
              all_goals
                have F := Lib.hid (by have h := F.out; rw [hr, HB.out] at h; exact h)
                go_wp2_with fail
                first
                | (go_ret; exact ⟨ret_bool (by rw [HX.out, F.out]; rfl), hb⟩)
                | (refine (q_spec_l1In _ _ _ _).mono ?_; rintro e w1 ⟨rfl, rfl⟩; rw [hr]; go_wp2_with fail; go_ret; exact ⟨ret_bool (by rw [HX.out, F.out]; rfl), hb⟩)
          by_cases k2 : p.kind = 2
          · have F := Lib.hid (formOk_2 (cols := cols) k2)
            have d1 : (p.kind == 1) = false := by simp [k2]
            have d2 : (p.kind == 2) = true := by simp [k2]
            have d3 : (p.kind == 3) = false := by simp [k2]
            have d4 : (p.kind == 4) = false := by simp [k2]
            have d5 : (p.kind == 5) = false := by simp [k2]
            clear k2
            generalize hcol : p.col = col at *
            cases hI : inR col 0 ((cols.length : Int) - 1)
            · have F := Lib.hid (F.out.trans (cmpOk_out hI))
              have cI := fun W => (c_spec_l1In col 0 ((cols.length : Int) - 1) W).mono fun e w' h => (⟨hI ▸ h.1, h.2⟩ : e = .returned (.bool false) ∧ _)
              go_wp2_with fail
              have q_0 := cell_regrown (w := wc) q1
              refine wp_region_quiet_below (by kernel_rfl) (by kernel_rfl) ?_
              repeat (go_big_quiet_step (first | (go_at_call 43; with_reducible exact Calls.regrown_of (cI _))))
              refine wpQuiet_nil ?_
              intro wq hw'
              obtain ⟨⟨dq, osq⟩, hw''⟩ := hw'
              have hbq := below_regrown wc dq osq
              rw [← hw''] at hbq
              clear hw''
              clear q_0
              go_wp2_with fail
              go_ret
              exact ⟨ret_bool (by first | (rw [HX.out, F.out]; done) | (rw [HX.out, F.out]; rfl)), hb.trans (hbq.mono hb.size)⟩
            · obtain ⟨j0, j1⟩ := inR_yes hI
              have cI := fun W => (c_spec_l1In col 0 ((cols.length : Int) - 1) W).mono fun e w' h => (⟨hI ▸ h.1, h.2⟩ : e = .returned (.bool true) ∧ _)
              obtain ⟨j, rfl⟩ : ∃ j : Nat, col = (j : Int) := ⟨col.toNat, by omega⟩
              have hjl : j < cols.length := by omega
              obtain ⟨bc, offc, ct, rfl, -, hbc, hck, c0⟩ := (hc.below hb hh1).at hjl
              have F := Lib.hid (F.out.trans (cmpOk_at hck))
              clear hck j0 j1
              cases hV : valOk p.v
              · have F := Lib.hid (by have h := F.out; rw [hV] at h; exact h)
                have cV := fun W => (spec_ValOk p.v W hok.1).mono fun e w' h => (⟨hV ▸ h.1, h.2⟩ : e = .returned (.bool false) ∧ _)
                go_wp2_with fail
                have q_0 := cell_regrown (w := wc) q1
                have q_1 := cell_regrown (w := wc) q2
                have q_2 := cell_regrown (w := wc) q3
                have q_3 := cell_regrown (w := wc) q4
                have q_4 := cell_regrown (w := wc) q5
                have q_5 := cell_regrown (w := wc) c0
                refine wp_region_quiet_below (by kernel_rfl) (by kernel_rfl) ?_
                repeat (go_big_quiet_step (first | (go_at_call 43; with_reducible exact Calls.regrown_of (cI _)) | (go_at_call 71; with_reducible exact Calls.regrown_of (cV _)) | (go_at_call 43; with_reducible exact Calls.regrown_of (cO _))))
                refine wpQuiet_nil ?_
                intro wq hw'
                obtain ⟨⟨dq, osq⟩, hw''⟩ := hw'
                have hbq := below_regrown wc dq osq
                rw [← hw''] at hbq
                clear hw''
                clear q_0 q_1 q_2 q_3 q_4 q_5
                go_wp2_with fail
                go_ret
                exact ⟨ret_bool (by first | (rw [HX.out, F.out]; done) | (rw [HX.out, F.out]; rfl)), hb.trans (hbq.mono hb.size)⟩
              have F := Lib.hid (by have h := F.out; rw [hV] at h; exact h)
              have cV := fun W => (spec_ValOk p.v W hok.1).mono fun e w' h => (⟨hV ▸ h.1, h.2⟩ : e = .returned (.bool true) ∧ _)
              cases hT : (p.v.ty == ct)
              · have F := Lib.hid (by have h := F.out; rw [hT] at h; exact h)
                go_wp2_with fail
                have q_0 := cell_regrown (w := wc) q1
                have q_1 := cell_regrown (w := wc) q2
                have q_2 := cell_regrown (w := wc) q3
                have q_3 := cell_regrown (w := wc) q4
                have q_4 := cell_regrown (w := wc) q5
                have q_5 := cell_regrown (w := wc) c0
                refine wp_region_quiet_below (by kernel_rfl) (by kernel_rfl) ?_
                repeat (go_big_quiet_step (first | (go_at_call 43; with_reducible exact Calls.regrown_of (cI _)) | (go_at_call 71; with_reducible exact Calls.regrown_of (cV _)) | (go_at_call 43; with_reducible exact Calls.regrown_of (cO _))))
                refine wpQuiet_nil ?_
                intro wq hw'
                obtain ⟨⟨dq, osq⟩, hw''⟩ := hw'
                have hbq := below_regrown wc dq osq
                rw [← hw''] at hbq
                clear hw''
                clear q_0 q_1 q_2 q_3 q_4 q_5
                go_wp2_with fail
                go_ret
                exact ⟨ret_bool (by first | (rw [HX.out, F.out]; done) | (rw [HX.out, F.out]; rfl)), hb.trans (hbq.mono hb.size)⟩
              have F := Lib.hid (by have h := F.out; rw [hT] at h; exact h)
              cases hO : inR p.op 1 6
              · have F := Lib.hid (by have h := F.out; rw [hO] at h; exact h)
                have cO := fun W => (c_spec_l1In p.op 1 6 W).mono fun e w' h => (⟨hO ▸ h.1, h.2⟩ : e = .returned (.bool false) ∧ _)
                go_wp2_with fail
                have q_0 := cell_regrown (w := wc) q1
                have q_1 := cell_regrown (w := wc) q2
                have q_2 := cell_regrown (w := wc) q3
                have q_3 := cell_regrown (w := wc) q4
                have q_4 := cell_regrown (w := wc) q5
                have q_5 := cell_regrown (w := wc) c0
                refine wp_region_quiet_below (by kernel_rfl) (by kernel_rfl) ?_
                repeat (go_big_quiet_step (first | (go_at_call 43; with_reducible exact Calls.regrown_of (cI _)) | (go_at_call 71; with_reducible exact Calls.regrown_of (cV _)) | (go_at_call 43; with_reducible exact Calls.regrown_of (cO _))))
                refine wpQuiet_nil ?_
                intro wq hw'
                obtain ⟨⟨dq, osq⟩, hw''⟩ := hw'
                have hbq := below_regrown wc dq osq
                rw [← hw''] at hbq
                clear hw''
                clear q_0 q_1 q_2 q_3 q_4 q_5
                go_wp2_with fail
                go_ret
                exact ⟨ret_bool (by first | (rw [HX.out, F.out]; done) | (rw [HX.out, F.out]; rfl)), hb.trans (hbq.mono hb.size)⟩
              have F := Lib.hid (by have h := F.out; rw [hO] at h; exact h)
              have cO := fun W => (c_spec_l1In p.op 1 6 W).mono fun e w' h => (⟨hO ▸ h.1, h.2⟩ : e = .returned (.bool true) ∧ _)
              by_cases hz : p.l.length = 0
              · have hz0 : ((p.l.length : Int) == 0) = true := by rw [hz]; rfl
                have F := Lib.hid (by have h := F.out; rw [decide_eq_true hz] at h; exact h)
                clear hz
                go_wp2_with fail
                have q_0 := cell_regrown (w := wc) q1
                have q_1 := cell_regrown (w := wc) q2
                have q_2 := cell_regrown (w := wc) q3
                have q_3 := cell_regrown (w := wc) q4
                have q_4 := cell_regrown (w := wc) q5
                have q_5 := cell_regrown (w := wc) q6
                have q_6 := cell_regrown (w := wc) c0
                refine wp_region_quiet_below (by kernel_rfl) (by kernel_rfl) ?_
                repeat (go_big_quiet_step (first | (go_at_call 43; with_reducible exact Calls.regrown_of (cI _)) | (go_at_call 71; with_reducible exact Calls.regrown_of (cV _)) | (go_at_call 43; with_reducible exact Calls.regrown_of (cO _))))
                refine wpQuiet_nil ?_
                intro wq hw'
                obtain ⟨⟨dq, osq⟩, hw''⟩ := hw'
                have hbq := below_regrown wc dq osq
                rw [← hw''] at hbq
                clear hw''
                clear q_0 q_1 q_2 q_3 q_4 q_5 q_6
                go_wp2_with fail
                go_ret
                exact ⟨ret_bool (by first | (rw [HX.out, F.out]; done) | (rw [HX.out, F.out]; rfl)), hb.trans (hbq.mono hb.size)⟩
              · have hz0 : ((p.l.length : Int) == 0) = false := beq_eq_false_iff_ne.2 (by omega)
                have F := Lib.hid (by have h := F.out; rw [decide_eq_false hz] at h; exact h)
                clear hz
                go_wp2_with fail
                have q_0 := cell_regrown (w := wc) q1
                have q_1 := cell_regrown (w := wc) q2
                have q_2 := cell_regrown (w := wc) q3
                have q_3 := cell_regrown (w := wc) q4
                have q_4 := cell_regrown (w := wc) q5
                have q_5 := cell_regrown (w := wc) q6
                have q_6 := cell_regrown (w := wc) c0
                refine wp_region_quiet_below (by kernel_rfl) (by kernel_rfl) ?_
                repeat (go_big_quiet_step (first | (go_at_call 43; with_reducible exact Calls.regrown_of (cI _)) | (go_at_call 71; with_reducible exact Calls.regrown_of (cV _)) | (go_at_call 43; with_reducible exact Calls.regrown_of (cO _))))
                refine wpQuiet_nil ?_
                intro wq hw'
                obtain ⟨⟨dq, osq⟩, hw''⟩ := hw'
                have hbq := below_regrown wc dq osq
                rw [← hw''] at hbq
                clear hw''
                clear q_0 q_1 q_2 q_3 q_4 q_5 q_6
                go_wp2_with fail
                go_ret
                exact ⟨ret_bool (by first | (rw [HX.out, F.out]; done) | (rw [HX.out, F.out]; rfl)), hb.trans (hbq.mono hb.size)⟩
          have F := Lib.hid (show formOk cols p = false by simp [formOk, k1, k2, k3, k4, k5])
          have d1 : (p.kind == 1) = false := by simp [k1]
          have d2 : (p.kind == 2) = false := by simp [k2]
          have d3 : (p.kind == 3) = false := by simp [k3]
          have d4 : (p.kind == 4) = false := by simp [k4]
          have d5 : (p.kind == 5) = false := by simp [k5]
          clear k1 k2 k3 k4 k5
          go_wp2_with fail
          go_ret
          exact ⟨ret_bool (by rw [HX.out, F.out]), hb⟩
set_option maxRecDepth 20000 in
set_option maxHeartbeats 2000000 in
theorem spec_Count_n : ∀ (N : Nat) (p : P), SizeOf.sizeOf p < N → cntP p.l ≤ 1048576 → ∀ (sv : Value) (w : World) (lo hi : Nat), RdP w lo hi sv p.l → hi ≤ w.heap.size →
    Calls Tryz.prog 49 #[.agg #[.int .i64 p.kind, .int .i64 p.col, .int .i64 p.op, .int .i64 p.v.ty, .int .i64 p.v.n, .string p.v.s, sv]] w fun e w' => e = .returned (.int .i64 (1 + (cntP p.l : Nat))) ∧ Below w.heap.size w w'
  | 0, _, h, _ => absurd h (Nat.not_lt_zero _)
  | N + 1, p, hN, hn => by
    have IH := Lib.hid (spec_Count_n N)
    intro sv w lo hi hx hhi
    obtain ⟨A, c, rfl, hl, hl2⟩ := hx.form
    have hb0 := Lib.hid (up_a1 w (.cells #[.int .i64 p.kind, .int .i64 p.col, .int .i64 p.op, .int .i64 p.v.ty, .int .i64 p.v.n, .string p.v.s, .slice A p.l.length c] 27))
    go_enter Tryz.func49, Tryz.ntmps49
    go_wp2_with fail
    go_loopw [3, 4] (fun s i wr => ∃ q : Nat, i = .int .i64 q ∧ q ≤ p.l.length ∧ s = .int .i64 (1 + (cntP (p.l.take q) : Nat)) ∧ wr.heap[w.heap.size]? = some (.cells #[.int .i64 p.kind, .int .i64 p.col, .int .i64 p.op, .int .i64 p.v.ty, .int .i64 p.v.n, .string p.v.s, .slice A p.l.length c] 27) ∧ Below w.heap.size w wr) (fun _ i _ => p.l.length - (intOf i).toNat)
    case atStart => exact ⟨0, rfl, by omega, by simp [cntP_nil], heap_alloc_new w _, hb0.out⟩
    case round =>
      obtain ⟨q, rfl, hq, rfl, hcb, hb⟩ := hrel
      have hg : w.heap.size < wr.heap.size := (Array.getElem?_eq_some_iff.1 hcb).1
      have q6 := cell_of_row wr _ 6 _ _ _ hcb
      have Hcb := Lib.hid hcb
      clear hcb
      by_cases hql : q < p.l.length
      · obtain ⟨b, off, x, sx, rfl, -, hbl, hxk, hat, hr⟩ := (hx.below hb hhi).at hql
        obtain ⟨e0, e1, e2, e3, e4, e5, e6⟩ := hat
        have hcn := (cntP_take hxk).1
        have hcn2 := (cntP_take hxk).2
        have hlt := P.get_lt hxk
        have hC := Lib.hid (IH.out x (by omega) (by omega) sx wr lo hi hr (Nat.le_trans hhi hb.size))
        clear hxk hr
        generalize hK : (1 + (cntP (p.l.take q) : Nat) : Int) = K
        go_wp2_with fail
        refine hC.out.mono ?_
        rintro e w1 ⟨rfl, hb1⟩
        go_wp2_with fail
        go_roundw
        case rel => exact ⟨q + 1, by go_num, by omega, congrArg (Value.int .i64) (by omega), (hb1.block _ hg).trans Hcb.out, hb.trans (hb1.mono hb.size)⟩
        case measure => simp [intOf]; omega
      · obtain rfl : q = p.l.length := by omega
        rw [List.take_length]
        go_wp2_with fail
        go_ret
        exact ⟨rfl, hb⟩
end Go.Proofs.YtjogkbkkcaljhaaGreatDoor
namespace Go.Lb
def cntV (cols : List Int) (k : Nat) (p : P) : Int := if deepOk cols k p then 1 + (cntP p.l : Nat) else -1
theorem cntV_no {cols : List Int} {k : Nat} {p : P} (h : deepOk cols k p = false) : cntV cols k p = -1 := by simp [cntV, h]
theorem cntV_yes {cols : List Int} {k : Nat} {p : P} (h : deepOk cols k p = true) : cntV cols k p = 1 + (cntP p.l : Nat) := by simp [cntV, h]
end Go.Lb
namespace Go.Proofs.YtjogkbkkcaljhaaGreatDoor
open Go.Sort Go.ChangeShapes Go.WideShapes Go.ChangeAt Go.RowKit Go.Lb
def CntC (cols : List Int) (cv : Value) (k : Nat) (p : P) : Prop := ∀ (d : Int), d = (k : Int) → k ≤ 4 → POk p → cntP p.l ≤ 1048576 → ∀ (sv : Value) (w : World) (lo hi l1 h1 : Nat), RdP w lo hi sv p.l → hi ≤ w.heap.size → RdI w l1 h1 cv cols → h1 ≤ w.heap.size →
    Calls Tryz.prog 46 #[cv, .agg #[.int .i64 p.kind, .int .i64 p.col, .int .i64 p.op, .int .i64 p.v.ty, .int .i64 p.v.n, .string p.v.s, sv], .int .i64 d] w fun e w' => e = .returned (.int .i64 (cntV cols k p)) ∧ Below w.heap.size w w'
set_option maxRecDepth 20000 in
set_option maxHeartbeats 8000000 in
theorem cnt_0 (cols : List Int) (cv : Value) (p : P) : CntC cols cv 0 p := by
  intro d hd _ _ _
  intro sv w lo hi l1 h1 hx hhi hc hh1
  obtain rfl : d = 0 := by omega
  clear hd
  have H := Lib.hid (cntV_no (cols := cols) (k := 0) (p := p) rfl)
  have hb0 := Lib.hid (up_a1 w (.cells #[.int .i64 p.kind, .int .i64 p.col, .int .i64 p.op, .int .i64 p.v.ty, .int .i64 p.v.n, .string p.v.s, sv] 27))
  go_enter Tryz.func46, Tryz.ntmps46
  go_wp2_with fail
  go_ret
  exact ⟨ret_int H.out.symm, hb0.out⟩
set_option maxRecDepth 20000 in
set_option maxHeartbeats 8000000 in
theorem cnt_k1 (cols : List Int) (cv : Value) (k : Nat) (IHc : ∀ p, CntC cols cv k p) (p : P) (k1 : p.kind = 1) : CntC cols cv (k + 1) p := by
  have Hk1 := Lib.hid k1
  clear k1
  intro d hd hk4 hok hcn
  have IH := Lib.hid IHc
  have Hd := Lib.hid hd
  intro sv w lo hi l1 h1 hx hhi hc hh1
  obtain ⟨A, c, rfl, hl, hl2⟩ := hx.form
  obtain ⟨Ac, cc, rfl, hcl, hcl2⟩ := hc.form
  have hb0 := up_a1 w (.cells #[.int .i64 p.kind, .int .i64 p.col, .int .i64 p.op, .int .i64 p.v.ty, .int .i64 p.v.n, .string p.v.s, .slice A p.l.length c] 27)
  have Hcb := Lib.hid (heap_alloc_new w (.cells #[.int .i64 p.kind, .int .i64 p.col, .int .i64 p.op, .int .i64 p.v.ty, .int .i64 p.v.n, .string p.v.s, .slice A p.l.length c] 27))
  have hs0 : (w.alloc (.cells #[.int .i64 p.kind, .int .i64 p.col, .int .i64 p.op, .int .i64 p.v.ty, .int .i64 p.v.n, .string p.v.s, .slice A p.l.length c] 27)).heap.size = w.heap.size + 1 := by simp
  have hlt : decide (d < 1) = false := decide_eq_false (by omega)
  have hwd : IntKind.i64.wrap (d - 1) = d - 1 := IntWalk.i64_in _ ⟨by omega, by omega⟩
  have hwc : IntKind.i64.wrap ((cols.length : Int) - 1) = (cols.length : Int) - 1 := IntWalk.i64_in _ ⟨by omega, by omega⟩
  clear hd
  have HOk := Lib.hid hok.2
  have he := eql_zero p.v
  have hgd := guard_V
  by_cases hl4 : 4 < p.l.length
  · have hdl : decide (4 < (p.l.length : Int)) = true := decide_eq_true (by omega)
    have H := Lib.hid (cntV_no (cols := cols) (k := k + 1) (p := p) (by
      cases h : deepOk cols (k + 1) p
      · rfl
      · simp only [deepOk, Bool.and_eq_true] at h
        have := formOk_len h.1
        omega))
    clear hl4
    go_enter Tryz.func46, Tryz.ntmps46
    go_wp2_with fail
    go_ret
    exact ⟨ret_int H.out.symm, hb0⟩
  have hdl : decide (4 < (p.l.length : Int)) = false := decide_eq_false (by omega)
  go_enter Tryz.func46, Tryz.ntmps46
  go_upto_region 3 with fail
  generalize (w.alloc (.cells #[.int .i64 p.kind, .int .i64 p.col, .int .i64 p.op, .int .i64 p.v.ty, .int .i64 p.v.n, .string p.v.s, .slice A p.l.length c] 27)) = W1 at *
  have q0 := cell_of_row W1 _ 0 _ _ _ Hcb.out
  have q1 := cell_of_row W1 _ 1 _ _ _ Hcb.out
  have q2 := cell_of_row W1 _ 2 _ _ _ Hcb.out
  have q3 := cell_of_row W1 _ 3 _ _ _ Hcb.out
  have q4 := cell_of_row W1 _ 4 _ _ _ Hcb.out
  have q5 := cell_of_row W1 _ 5 _ _ _ Hcb.out
  have q6 := cell_of_row W1 _ 6 _ _ _ Hcb.out
  simp only [List.getElem?_toArray, List.getElem?_cons_zero, List.getElem?_cons_succ] at q0 q1 q2 q3 q4 q5 q6
  go_cut [7] from 21 to 34 (fun s wx => s = .bool (bareP p) ∧ W1 = wx)
  case first =>
    rcases bare_cases p with ⟨hB, b1⟩ | ⟨hB, b1, b2⟩ | ⟨hB, b1, b2, b3⟩ | ⟨hB, b1, b2, b3⟩
    all_goals
      have HB := Lib.hid hB
      try rw [b3] at he
      clear hB
      try clear b3
      go_wp2_with fail
      go_meet
      exact ⟨by rw [HB.out], rfl⟩
  case rest =>
    obtain ⟨rfl, rfl⟩ := hcut
    obtain ⟨b, hB⟩ : ∃ b, bareP p = b := ⟨_, rfl⟩
    have HB := Lib.hid hB
    rw [hB]
    clear hB he
    have k1 := Hk1.out
    have F := Lib.hid (formOk_1 (cols := cols) k1)
    have d1 : (p.kind == 1) = true := by simp [k1]
    have d2 : (p.kind == 2) = false := by simp [k1]
    have d3 : (p.kind == 3) = false := by simp [k1]
    have d4 : (p.kind == 4) = false := by simp [k1]
    have d5 : (p.kind == 5) = false := by simp [k1]
    clear k1
    cases b
    · have F := Lib.hid (show formOk cols p = false by rw [F.out, HB.out]; rfl)
      have H := Lib.hid (cntV_no (cols := cols) (k := k + 1) (p := p) (by rw [deepOk, F.out]; rfl))
      go_wp2_with fail
      go_ret
      exact ⟨ret_int H.out.symm, hb0⟩
    · by_cases hz : p.l.length = 0
      · have hz0 : ((p.l.length : Int) == 0) = true := by rw [hz]; rfl
        have F := Lib.hid (show formOk cols p = true by rw [F.out, HB.out, hz]; rfl)
        have Hz := Lib.hid hz
        clear hz
        have hbc := Below.refl W1.heap.size W1
        have hbW := hb0.trans (hbc.mono (by omega))
        go_wp2_with fail
        go_loopw [9, 105] (fun s i wr => ∃ q : Nat, i = .int .i64 q ∧ q ≤ p.l.length ∧ s = .int .i64 (1 + (cntP (p.l.take q) : Nat)) ∧ (p.l.take q).all (deepOk cols k) = true ∧ Below w.heap.size w wr) (fun _ i _ => p.l.length - (intOf i).toNat)
        case atStart => exact ⟨0, rfl, by omega, by simp [cntP_nil], by simp, hbW⟩
        case round =>
          obtain ⟨q, rfl, hq, rfl, hall, hb⟩ := hrel
          have Hall := Lib.hid hall
          clear hall
          have hbs := hb.size
          by_cases hql : q < p.l.length
          · exact absurd hql (by have := Hz.out; omega)
          · obtain rfl : q = p.l.length := by omega
            have H := Lib.hid (cntV_yes (cols := cols) (k := k + 1) (p := p) (by rw [deep_end Hall.out, F.out]))
            rw [List.take_length]
            go_wp2_with fail
            go_ret
            exact ⟨ret_int H.out.symm, hb⟩
      · have hz0 : ((p.l.length : Int) == 0) = false := beq_eq_false_iff_ne.2 (by omega)
        have F := Lib.hid (show formOk cols p = false by rw [F.out, HB.out]; simp [hz])
        clear hz
        have H := Lib.hid (cntV_no (cols := cols) (k := k + 1) (p := p) (by rw [deepOk, F.out]; rfl))
        go_wp2_with fail
        go_ret
        exact ⟨ret_int H.out.symm, hb0⟩
set_option maxRecDepth 20000 in
set_option maxHeartbeats 8000000 in
theorem cnt_no (cols : List Int) (cv : Value) (k : Nat) (IHc : ∀ p, CntC cols cv k p) (p : P) (k1 : ¬ p.kind = 1) (k2 : ¬ p.kind = 2) (k3 : ¬ p.kind = 3) (k4 : ¬ p.kind = 4) (k5 : ¬ p.kind = 5) : CntC cols cv (k + 1) p := by
  have Hk1 := Lib.hid k1
  have Hk2 := Lib.hid k2
  have Hk3 := Lib.hid k3
  have Hk4 := Lib.hid k4
  have Hk5 := Lib.hid k5
  clear k1 k2 k3 k4 k5
  intro d hd hk4 hok hcn
  have IH := Lib.hid IHc
  have Hd := Lib.hid hd
  intro sv w lo hi l1 h1 hx hhi hc hh1
  obtain ⟨A, c, rfl, hl, hl2⟩ := hx.form
  obtain ⟨Ac, cc, rfl, hcl, hcl2⟩ := hc.form
  have hb0 := up_a1 w (.cells #[.int .i64 p.kind, .int .i64 p.col, .int .i64 p.op, .int .i64 p.v.ty, .int .i64 p.v.n, .string p.v.s, .slice A p.l.length c] 27)
  have Hcb := Lib.hid (heap_alloc_new w (.cells #[.int .i64 p.kind, .int .i64 p.col, .int .i64 p.op, .int .i64 p.v.ty, .int .i64 p.v.n, .string p.v.s, .slice A p.l.length c] 27))
  have hs0 : (w.alloc (.cells #[.int .i64 p.kind, .int .i64 p.col, .int .i64 p.op, .int .i64 p.v.ty, .int .i64 p.v.n, .string p.v.s, .slice A p.l.length c] 27)).heap.size = w.heap.size + 1 := by simp
  have hlt : decide (d < 1) = false := decide_eq_false (by omega)
  have hwd : IntKind.i64.wrap (d - 1) = d - 1 := IntWalk.i64_in _ ⟨by omega, by omega⟩
  have hwc : IntKind.i64.wrap ((cols.length : Int) - 1) = (cols.length : Int) - 1 := IntWalk.i64_in _ ⟨by omega, by omega⟩
  clear hd
  have HOk := Lib.hid hok.2
  have he := eql_zero p.v
  have hgd := guard_V
  by_cases hl4 : 4 < p.l.length
  · have hdl : decide (4 < (p.l.length : Int)) = true := decide_eq_true (by omega)
    have H := Lib.hid (cntV_no (cols := cols) (k := k + 1) (p := p) (by
      cases h : deepOk cols (k + 1) p
      · rfl
      · simp only [deepOk, Bool.and_eq_true] at h
        have := formOk_len h.1
        omega))
    clear hl4
    go_enter Tryz.func46, Tryz.ntmps46
    go_wp2_with fail
    go_ret
    exact ⟨ret_int H.out.symm, hb0⟩
  have hdl : decide (4 < (p.l.length : Int)) = false := decide_eq_false (by omega)
  go_enter Tryz.func46, Tryz.ntmps46
  go_upto_region 3 with fail
  generalize (w.alloc (.cells #[.int .i64 p.kind, .int .i64 p.col, .int .i64 p.op, .int .i64 p.v.ty, .int .i64 p.v.n, .string p.v.s, .slice A p.l.length c] 27)) = W1 at *
  have q0 := cell_of_row W1 _ 0 _ _ _ Hcb.out
  have q1 := cell_of_row W1 _ 1 _ _ _ Hcb.out
  have q2 := cell_of_row W1 _ 2 _ _ _ Hcb.out
  have q3 := cell_of_row W1 _ 3 _ _ _ Hcb.out
  have q4 := cell_of_row W1 _ 4 _ _ _ Hcb.out
  have q5 := cell_of_row W1 _ 5 _ _ _ Hcb.out
  have q6 := cell_of_row W1 _ 6 _ _ _ Hcb.out
  simp only [List.getElem?_toArray, List.getElem?_cons_zero, List.getElem?_cons_succ] at q0 q1 q2 q3 q4 q5 q6
  go_cut [7] from 21 to 34 (fun s wx => s = .bool (bareP p) ∧ W1 = wx)
  case first =>
    rcases bare_cases p with ⟨hB, b1⟩ | ⟨hB, b1, b2⟩ | ⟨hB, b1, b2, b3⟩ | ⟨hB, b1, b2, b3⟩
    all_goals
      have HB := Lib.hid hB
      try rw [b3] at he
      clear hB
      try clear b3
      go_wp2_with fail
      go_meet
      exact ⟨by rw [HB.out], rfl⟩
  case rest =>
    obtain ⟨rfl, rfl⟩ := hcut
    obtain ⟨b, hB⟩ : ∃ b, bareP p = b := ⟨_, rfl⟩
    have HB := Lib.hid hB
    rw [hB]
    clear hB he
    have k1 := Hk1.out
    have k2 := Hk2.out
    have k3 := Hk3.out
    have k4 := Hk4.out
    have k5 := Hk5.out
    have F := Lib.hid (show formOk cols p = false by simp [formOk, k1, k2, k3, k4, k5])
    have d1 : (p.kind == 1) = false := by simp [k1]
    have d2 : (p.kind == 2) = false := by simp [k2]
    have d3 : (p.kind == 3) = false := by simp [k3]
    have d4 : (p.kind == 4) = false := by simp [k4]
    have d5 : (p.kind == 5) = false := by simp [k5]
    clear k1 k2 k3 k4 k5
    have H := Lib.hid (cntV_no (cols := cols) (k := k + 1) (p := p) (by rw [deepOk, F.out]; rfl))
    go_wp2_with fail
    go_ret
    exact ⟨ret_int H.out.symm, hb0⟩
end Go.Proofs.YtjogkbkkcaljhaaGreatDoor
namespace Go.Proofs.YtjogkbkkcaljhaaGreatDoor
open Go.Sort Go.ChangeShapes Go.WideShapes Go.ChangeAt Go.RowKit Go.Lb
set_option maxRecDepth 20000 in
set_option maxHeartbeats 8000000 in
theorem cnt_k5 (cols : List Int) (cv : Value) (k : Nat) (IHc : ∀ p, CntC cols cv k p) (p : P) (k5 : p.kind = 5) : CntC cols cv (k + 1) p := by
  have Hk5 := Lib.hid k5
  clear k5
  intro d hd hk4 hok hcn
  have IH := Lib.hid IHc
  have Hd := Lib.hid hd
  intro sv w lo hi l1 h1 hx hhi hc hh1
  obtain ⟨A, c, rfl, hl, hl2⟩ := hx.form
  obtain ⟨Ac, cc, rfl, hcl, hcl2⟩ := hc.form
  have hb0 := up_a1 w (.cells #[.int .i64 p.kind, .int .i64 p.col, .int .i64 p.op, .int .i64 p.v.ty, .int .i64 p.v.n, .string p.v.s, .slice A p.l.length c] 27)
  have Hcb := Lib.hid (heap_alloc_new w (.cells #[.int .i64 p.kind, .int .i64 p.col, .int .i64 p.op, .int .i64 p.v.ty, .int .i64 p.v.n, .string p.v.s, .slice A p.l.length c] 27))
  have hs0 : (w.alloc (.cells #[.int .i64 p.kind, .int .i64 p.col, .int .i64 p.op, .int .i64 p.v.ty, .int .i64 p.v.n, .string p.v.s, .slice A p.l.length c] 27)).heap.size = w.heap.size + 1 := by simp
  have hlt : decide (d < 1) = false := decide_eq_false (by omega)
  have hwd : IntKind.i64.wrap (d - 1) = d - 1 := IntWalk.i64_in _ ⟨by omega, by omega⟩
  have hwc : IntKind.i64.wrap ((cols.length : Int) - 1) = (cols.length : Int) - 1 := IntWalk.i64_in _ ⟨by omega, by omega⟩
  clear hd
  have HOk := Lib.hid hok.2
  have he := eql_zero p.v
  have hgd := guard_V
  by_cases hl4 : 4 < p.l.length
  · have hdl : decide (4 < (p.l.length : Int)) = true := decide_eq_true (by omega)
    have H := Lib.hid (cntV_no (cols := cols) (k := k + 1) (p := p) (by
      cases h : deepOk cols (k + 1) p
      · rfl
      · simp only [deepOk, Bool.and_eq_true] at h
        have := formOk_len h.1
        omega))
    clear hl4
    go_enter Tryz.func46, Tryz.ntmps46
    go_wp2_with fail
    go_ret
    exact ⟨ret_int H.out.symm, hb0⟩
  have hdl : decide (4 < (p.l.length : Int)) = false := decide_eq_false (by omega)
  go_enter Tryz.func46, Tryz.ntmps46
  go_upto_region 3 with fail
  generalize (w.alloc (.cells #[.int .i64 p.kind, .int .i64 p.col, .int .i64 p.op, .int .i64 p.v.ty, .int .i64 p.v.n, .string p.v.s, .slice A p.l.length c] 27)) = W1 at *
  have q0 := cell_of_row W1 _ 0 _ _ _ Hcb.out
  have q1 := cell_of_row W1 _ 1 _ _ _ Hcb.out
  have q2 := cell_of_row W1 _ 2 _ _ _ Hcb.out
  have q3 := cell_of_row W1 _ 3 _ _ _ Hcb.out
  have q4 := cell_of_row W1 _ 4 _ _ _ Hcb.out
  have q5 := cell_of_row W1 _ 5 _ _ _ Hcb.out
  have q6 := cell_of_row W1 _ 6 _ _ _ Hcb.out
  simp only [List.getElem?_toArray, List.getElem?_cons_zero, List.getElem?_cons_succ] at q0 q1 q2 q3 q4 q5 q6
  go_cut [7] from 21 to 34 (fun s wx => s = .bool (bareP p) ∧ W1 = wx)
  case first =>
    rcases bare_cases p with ⟨hB, b1⟩ | ⟨hB, b1, b2⟩ | ⟨hB, b1, b2, b3⟩ | ⟨hB, b1, b2, b3⟩
    all_goals
      have HB := Lib.hid hB
      try rw [b3] at he
      clear hB
      try clear b3
      go_wp2_with fail
      go_meet
      exact ⟨by rw [HB.out], rfl⟩
  case rest =>
    obtain ⟨rfl, rfl⟩ := hcut
    obtain ⟨b, hB⟩ : ∃ b, bareP p = b := ⟨_, rfl⟩
    have HB := Lib.hid hB
    rw [hB]
    clear hB he
    have k5 := Hk5.out
    have F := Lib.hid (formOk_5 (cols := cols) k5)
    have d1 : (p.kind == 1) = false := by simp [k5]
    have d2 : (p.kind == 2) = false := by simp [k5]
    have d3 : (p.kind == 3) = false := by simp [k5]
    have d4 : (p.kind == 4) = false := by simp [k5]
    have d5 : (p.kind == 5) = true := by simp [k5]
    clear k5
    cases b
    · have F := Lib.hid (show formOk cols p = false by rw [F.out, HB.out]; rfl)
      have H := Lib.hid (cntV_no (cols := cols) (k := k + 1) (p := p) (by rw [deepOk, F.out]; rfl))
      go_wp2_with fail
      go_ret
      exact ⟨ret_int H.out.symm, hb0⟩
    · by_cases hz : p.l.length = 1
      · have hz0 : ((p.l.length : Int) == 1) = true := by rw [hz]; rfl
        have F := Lib.hid (show formOk cols p = true by rw [F.out, HB.out, hz]; rfl)
        have Hz := Lib.hid hz
        clear hz
        have hbc := Below.refl W1.heap.size W1
        have hbW := hb0.trans (hbc.mono (by omega))
        go_wp2_with fail
        go_loopw [9, 105] (fun s i wr => ∃ q : Nat, i = .int .i64 q ∧ q ≤ p.l.length ∧ s = .int .i64 (1 + (cntP (p.l.take q) : Nat)) ∧ (p.l.take q).all (deepOk cols k) = true ∧ Below w.heap.size w wr) (fun _ i _ => p.l.length - (intOf i).toNat)
        case atStart => exact ⟨0, rfl, by omega, by simp [cntP_nil], by simp, hbW⟩
        case round =>
          obtain ⟨q, rfl, hq, rfl, hall, hb⟩ := hrel
          have Hall := Lib.hid hall
          clear hall
          have hbs := hb.size
          by_cases hql : q < p.l.length
          · obtain ⟨bx, off, x, sx, rfl, -, hbl, hxk, hat, hr⟩ := (hx.below hb hhi).at hql
            obtain ⟨As, cs, rfl, -, -⟩ := hr.form
            obtain ⟨e0, e1, e2, e3, e4, e5, e6⟩ := hat
            have hcn1 := (cntP_take hxk).1
            have hcn2 := (cntP_take hxk).2
            have HN := Lib.hid (fun h => deep_no (cols := cols) (k := k) hxk h)
            have HY := Lib.hid (fun h => all_step (f := deepOk cols k) hxk Hall.out h)
            have up := up_a1 wr (.cells #[.int .i64 x.kind, .int .i64 x.col, .int .i64 x.op, .int .i64 x.v.ty, .int .i64 x.v.n, .string x.v.s, .slice As x.l.length cs] 27)
            have hC := Lib.hid (IH.out x (d - 1) (by have := Hd.out; omega) (by omega) (HOk.out.get hxk) (by omega) (.slice As x.l.length cs) (wr.alloc (.cells #[.int .i64 x.kind, .int .i64 x.col, .int .i64 x.op, .int .i64 x.v.ty, .int .i64 x.v.n, .string x.v.s, .slice As x.l.length cs] 27)) lo hi l1 h1 (hr.below up (by omega)) (by simp; omega) ((hc.below hb hh1).below up (by omega)) (by simp; omega))
            have Up := Lib.hid up
            clear hxk hr up
            generalize hK : (1 + (cntP (p.l.take q) : Nat) : Int) = K
            cases hh : deepOk cols k x
            · rw [cntV_no hh] at hC
              have HN := Lib.hid (cntV_no (HN.out hh))
              clear hh
              go_wp2_with fail
              refine hC.out.mono ?_
              rintro e w1 ⟨rfl, hb1⟩
              go_wp2_with fail
              go_ret
              exact ⟨ret_int HN.out.symm, hb.trans ((Up.out.trans (hb1.mono Up.out.size)).mono hb.size)⟩
            · rw [cntV_yes hh] at hC
              have HY := Lib.hid (HY.out hh)
              clear hh
              have hn0 : decide ((1 + (cntP x.l : Nat) : Int) < 0) = false := decide_eq_false (by omega)
              generalize hM : (1 + (cntP x.l : Nat) : Int) = M at *
              have hwk : IntKind.i64.wrap (K + M) = K + M := IntWalk.i64_in _ ⟨by omega, by omega⟩
              have HK := Lib.hid hK
              have HM := Lib.hid hM
              clear hK hM
              go_wp2_with fail
              refine hC.out.mono ?_
              rintro e w1 ⟨rfl, hb1⟩
              go_wp2_with fail
              go_roundw
              case rel => exact ⟨q + 1, by go_num, by omega, congrArg (Value.int .i64) (by have := HK.out; have := HM.out; omega), HY.out, hb.trans ((Up.out.trans (hb1.mono Up.out.size)).mono hb.size)⟩
              case measure => simp [intOf]; omega
          · obtain rfl : q = p.l.length := by omega
            have H := Lib.hid (cntV_yes (cols := cols) (k := k + 1) (p := p) (by rw [deep_end Hall.out, F.out]))
            rw [List.take_length]
            go_wp2_with fail
            go_ret
            exact ⟨ret_int H.out.symm, hb⟩
      · have hz0 : ((p.l.length : Int) == 1) = false := beq_eq_false_iff_ne.2 (by omega)
        have F := Lib.hid (show formOk cols p = false by rw [F.out, HB.out]; simp [hz])
        clear hz
        have H := Lib.hid (cntV_no (cols := cols) (k := k + 1) (p := p) (by rw [deepOk, F.out]; rfl))
        go_wp2_with fail
        go_ret
        exact ⟨ret_int H.out.symm, hb0⟩
end Go.Proofs.YtjogkbkkcaljhaaGreatDoor
namespace Go.Proofs.YtjogkbkkcaljhaaGreatDoor
open Go.Sort Go.ChangeShapes Go.WideShapes Go.ChangeAt Go.RowKit Go.Lb
set_option maxRecDepth 20000 in
set_option maxHeartbeats 8000000 in
theorem cnt_k3 (cols : List Int) (cv : Value) (k : Nat) (IHc : ∀ p, CntC cols cv k p) (p : P) (k3 : p.kind = 3) : CntC cols cv (k + 1) p := by
  have Hk3 := Lib.hid k3
  clear k3
  intro d hd hk4 hok hcn
  have IH := Lib.hid IHc
  have Hd := Lib.hid hd
  intro sv w lo hi l1 h1 hx hhi hc hh1
  obtain ⟨A, c, rfl, hl, hl2⟩ := hx.form
  obtain ⟨Ac, cc, rfl, hcl, hcl2⟩ := hc.form
  have hb0 := up_a1 w (.cells #[.int .i64 p.kind, .int .i64 p.col, .int .i64 p.op, .int .i64 p.v.ty, .int .i64 p.v.n, .string p.v.s, .slice A p.l.length c] 27)
  have Hcb := Lib.hid (heap_alloc_new w (.cells #[.int .i64 p.kind, .int .i64 p.col, .int .i64 p.op, .int .i64 p.v.ty, .int .i64 p.v.n, .string p.v.s, .slice A p.l.length c] 27))
  have hs0 : (w.alloc (.cells #[.int .i64 p.kind, .int .i64 p.col, .int .i64 p.op, .int .i64 p.v.ty, .int .i64 p.v.n, .string p.v.s, .slice A p.l.length c] 27)).heap.size = w.heap.size + 1 := by simp
  have hlt : decide (d < 1) = false := decide_eq_false (by omega)
  have hwd : IntKind.i64.wrap (d - 1) = d - 1 := IntWalk.i64_in _ ⟨by omega, by omega⟩
  have hwc : IntKind.i64.wrap ((cols.length : Int) - 1) = (cols.length : Int) - 1 := IntWalk.i64_in _ ⟨by omega, by omega⟩
  clear hd
  have HOk := Lib.hid hok.2
  have he := eql_zero p.v
  have hgd := guard_V
  by_cases hl4 : 4 < p.l.length
  · have hdl : decide (4 < (p.l.length : Int)) = true := decide_eq_true (by omega)
    have H := Lib.hid (cntV_no (cols := cols) (k := k + 1) (p := p) (by
      cases h : deepOk cols (k + 1) p
      · rfl
      · simp only [deepOk, Bool.and_eq_true] at h
        have := formOk_len h.1
        omega))
    clear hl4
    go_enter Tryz.func46, Tryz.ntmps46
    go_wp2_with fail
    go_ret
    exact ⟨ret_int H.out.symm, hb0⟩
  have hdl : decide (4 < (p.l.length : Int)) = false := decide_eq_false (by omega)
  go_enter Tryz.func46, Tryz.ntmps46
  go_upto_region 3 with fail
  generalize (w.alloc (.cells #[.int .i64 p.kind, .int .i64 p.col, .int .i64 p.op, .int .i64 p.v.ty, .int .i64 p.v.n, .string p.v.s, .slice A p.l.length c] 27)) = W1 at *
  have q0 := cell_of_row W1 _ 0 _ _ _ Hcb.out
  have q1 := cell_of_row W1 _ 1 _ _ _ Hcb.out
  have q2 := cell_of_row W1 _ 2 _ _ _ Hcb.out
  have q3 := cell_of_row W1 _ 3 _ _ _ Hcb.out
  have q4 := cell_of_row W1 _ 4 _ _ _ Hcb.out
  have q5 := cell_of_row W1 _ 5 _ _ _ Hcb.out
  have q6 := cell_of_row W1 _ 6 _ _ _ Hcb.out
  simp only [List.getElem?_toArray, List.getElem?_cons_zero, List.getElem?_cons_succ] at q0 q1 q2 q3 q4 q5 q6
  go_cut [7] from 21 to 34 (fun s wx => s = .bool (bareP p) ∧ W1 = wx)
  case first =>
    rcases bare_cases p with ⟨hB, b1⟩ | ⟨hB, b1, b2⟩ | ⟨hB, b1, b2, b3⟩ | ⟨hB, b1, b2, b3⟩
    all_goals
      have HB := Lib.hid hB
      try rw [b3] at he
      clear hB
      try clear b3
      go_wp2_with fail
      go_meet
      exact ⟨by rw [HB.out], rfl⟩
  case rest =>
    obtain ⟨rfl, rfl⟩ := hcut
    obtain ⟨b, hB⟩ : ∃ b, bareP p = b := ⟨_, rfl⟩
    have HB := Lib.hid hB
    rw [hB]
    clear hB he
    have k3 := Hk3.out
    have F := Lib.hid (formOk_3 (cols := cols) k3)
    have d1 : (p.kind == 1) = false := by simp [k3]
    have d2 : (p.kind == 2) = false := by simp [k3]
    have d3 : (p.kind == 3) = true := by simp [k3]
    have d4 : (p.kind == 4) = false := by simp [k3]
    have d5 : (p.kind == 5) = false := by simp [k3]
    clear k3
    cases b
    · have F := Lib.hid (show formOk cols p = false by rw [F.out, HB.out]; rfl)
      have H := Lib.hid (cntV_no (cols := cols) (k := k + 1) (p := p) (by rw [deepOk, F.out]; rfl))
      go_wp2_with fail
      go_ret
      exact ⟨ret_int H.out.symm, hb0⟩
    · by_cases hz : 1 ≤ p.l.length
      · have hz0 : decide (1 ≤ (p.l.length : Int)) = true := decide_eq_true (by omega)
        have F := Lib.hid (show formOk cols p = true by rw [F.out, HB.out, inR_of (by omega) (by omega)]; rfl)
        clear hz
        have hbc := Below.refl W1.heap.size W1
        have hbW := hb0.trans (hbc.mono (by omega))
        go_wp2_with fail
        go_loopw [9, 105] (fun s i wr => ∃ q : Nat, i = .int .i64 q ∧ q ≤ p.l.length ∧ s = .int .i64 (1 + (cntP (p.l.take q) : Nat)) ∧ (p.l.take q).all (deepOk cols k) = true ∧ Below w.heap.size w wr) (fun _ i _ => p.l.length - (intOf i).toNat)
        case atStart => exact ⟨0, rfl, by omega, by simp [cntP_nil], by simp, hbW⟩
        case round =>
          obtain ⟨q, rfl, hq, rfl, hall, hb⟩ := hrel
          have Hall := Lib.hid hall
          clear hall
          have hbs := hb.size
          by_cases hql : q < p.l.length
          · obtain ⟨bx, off, x, sx, rfl, -, hbl, hxk, hat, hr⟩ := (hx.below hb hhi).at hql
            obtain ⟨As, cs, rfl, -, -⟩ := hr.form
            obtain ⟨e0, e1, e2, e3, e4, e5, e6⟩ := hat
            have hcn1 := (cntP_take hxk).1
            have hcn2 := (cntP_take hxk).2
            have HN := Lib.hid (fun h => deep_no (cols := cols) (k := k) hxk h)
            have HY := Lib.hid (fun h => all_step (f := deepOk cols k) hxk Hall.out h)
            have up := up_a1 wr (.cells #[.int .i64 x.kind, .int .i64 x.col, .int .i64 x.op, .int .i64 x.v.ty, .int .i64 x.v.n, .string x.v.s, .slice As x.l.length cs] 27)
            have hC := Lib.hid (IH.out x (d - 1) (by have := Hd.out; omega) (by omega) (HOk.out.get hxk) (by omega) (.slice As x.l.length cs) (wr.alloc (.cells #[.int .i64 x.kind, .int .i64 x.col, .int .i64 x.op, .int .i64 x.v.ty, .int .i64 x.v.n, .string x.v.s, .slice As x.l.length cs] 27)) lo hi l1 h1 (hr.below up (by omega)) (by simp; omega) ((hc.below hb hh1).below up (by omega)) (by simp; omega))
            have Up := Lib.hid up
            clear hxk hr up
            generalize hK : (1 + (cntP (p.l.take q) : Nat) : Int) = K
            cases hh : deepOk cols k x
            · rw [cntV_no hh] at hC
              have HN := Lib.hid (cntV_no (HN.out hh))
              clear hh
              go_wp2_with fail
              refine hC.out.mono ?_
              rintro e w1 ⟨rfl, hb1⟩
              go_wp2_with fail
              go_ret
              exact ⟨ret_int HN.out.symm, hb.trans ((Up.out.trans (hb1.mono Up.out.size)).mono hb.size)⟩
            · rw [cntV_yes hh] at hC
              have HY := Lib.hid (HY.out hh)
              clear hh
              have hn0 : decide ((1 + (cntP x.l : Nat) : Int) < 0) = false := decide_eq_false (by omega)
              generalize hM : (1 + (cntP x.l : Nat) : Int) = M at *
              have hwk : IntKind.i64.wrap (K + M) = K + M := IntWalk.i64_in _ ⟨by omega, by omega⟩
              have HK := Lib.hid hK
              have HM := Lib.hid hM
              clear hK hM
              go_wp2_with fail
              refine hC.out.mono ?_
              rintro e w1 ⟨rfl, hb1⟩
              go_wp2_with fail
              go_roundw
              case rel => exact ⟨q + 1, by go_num, by omega, congrArg (Value.int .i64) (by have := HK.out; have := HM.out; omega), HY.out, hb.trans ((Up.out.trans (hb1.mono Up.out.size)).mono hb.size)⟩
              case measure => simp [intOf]; omega
          · obtain rfl : q = p.l.length := by omega
            have H := Lib.hid (cntV_yes (cols := cols) (k := k + 1) (p := p) (by rw [deep_end Hall.out, F.out]))
            rw [List.take_length]
            go_wp2_with fail
            go_ret
            exact ⟨ret_int H.out.symm, hb⟩
      · have hz0 : decide (1 ≤ (p.l.length : Int)) = false := decide_eq_false (by omega)
        have F := Lib.hid (show formOk cols p = false by rw [F.out, HB.out, inR_not (by omega)]; rfl)
        clear hz
        have H := Lib.hid (cntV_no (cols := cols) (k := k + 1) (p := p) (by rw [deepOk, F.out]; rfl))
        go_wp2_with fail
        go_ret
        exact ⟨ret_int H.out.symm, hb0⟩
end Go.Proofs.YtjogkbkkcaljhaaGreatDoor
namespace Go.Proofs.YtjogkbkkcaljhaaGreatDoor
open Go.Sort Go.ChangeShapes Go.WideShapes Go.ChangeAt Go.RowKit Go.Lb
set_option maxRecDepth 20000 in
set_option maxHeartbeats 8000000 in
theorem cnt_k4 (cols : List Int) (cv : Value) (k : Nat) (IHc : ∀ p, CntC cols cv k p) (p : P) (k4 : p.kind = 4) : CntC cols cv (k + 1) p := by
  have Hk4 := Lib.hid k4
  clear k4
  intro d hd hk4 hok hcn
  have IH := Lib.hid IHc
  have Hd := Lib.hid hd
  intro sv w lo hi l1 h1 hx hhi hc hh1
  obtain ⟨A, c, rfl, hl, hl2⟩ := hx.form
  obtain ⟨Ac, cc, rfl, hcl, hcl2⟩ := hc.form
  have hb0 := up_a1 w (.cells #[.int .i64 p.kind, .int .i64 p.col, .int .i64 p.op, .int .i64 p.v.ty, .int .i64 p.v.n, .string p.v.s, .slice A p.l.length c] 27)
  have Hcb := Lib.hid (heap_alloc_new w (.cells #[.int .i64 p.kind, .int .i64 p.col, .int .i64 p.op, .int .i64 p.v.ty, .int .i64 p.v.n, .string p.v.s, .slice A p.l.length c] 27))
  have hs0 : (w.alloc (.cells #[.int .i64 p.kind, .int .i64 p.col, .int .i64 p.op, .int .i64 p.v.ty, .int .i64 p.v.n, .string p.v.s, .slice A p.l.length c] 27)).heap.size = w.heap.size + 1 := by simp
  have hlt : decide (d < 1) = false := decide_eq_false (by omega)
  have hwd : IntKind.i64.wrap (d - 1) = d - 1 := IntWalk.i64_in _ ⟨by omega, by omega⟩
  have hwc : IntKind.i64.wrap ((cols.length : Int) - 1) = (cols.length : Int) - 1 := IntWalk.i64_in _ ⟨by omega, by omega⟩
  clear hd
  have HOk := Lib.hid hok.2
  have he := eql_zero p.v
  have hgd := guard_V
  by_cases hl4 : 4 < p.l.length
  · have hdl : decide (4 < (p.l.length : Int)) = true := decide_eq_true (by omega)
    have H := Lib.hid (cntV_no (cols := cols) (k := k + 1) (p := p) (by
      cases h : deepOk cols (k + 1) p
      · rfl
      · simp only [deepOk, Bool.and_eq_true] at h
        have := formOk_len h.1
        omega))
    clear hl4
    go_enter Tryz.func46, Tryz.ntmps46
    go_wp2_with fail
    go_ret
    exact ⟨ret_int H.out.symm, hb0⟩
  have hdl : decide (4 < (p.l.length : Int)) = false := decide_eq_false (by omega)
  go_enter Tryz.func46, Tryz.ntmps46
  go_upto_region 3 with fail
  generalize (w.alloc (.cells #[.int .i64 p.kind, .int .i64 p.col, .int .i64 p.op, .int .i64 p.v.ty, .int .i64 p.v.n, .string p.v.s, .slice A p.l.length c] 27)) = W1 at *
  have q0 := cell_of_row W1 _ 0 _ _ _ Hcb.out
  have q1 := cell_of_row W1 _ 1 _ _ _ Hcb.out
  have q2 := cell_of_row W1 _ 2 _ _ _ Hcb.out
  have q3 := cell_of_row W1 _ 3 _ _ _ Hcb.out
  have q4 := cell_of_row W1 _ 4 _ _ _ Hcb.out
  have q5 := cell_of_row W1 _ 5 _ _ _ Hcb.out
  have q6 := cell_of_row W1 _ 6 _ _ _ Hcb.out
  simp only [List.getElem?_toArray, List.getElem?_cons_zero, List.getElem?_cons_succ] at q0 q1 q2 q3 q4 q5 q6
  go_cut [7] from 21 to 34 (fun s wx => s = .bool (bareP p) ∧ W1 = wx)
  case first =>
    rcases bare_cases p with ⟨hB, b1⟩ | ⟨hB, b1, b2⟩ | ⟨hB, b1, b2, b3⟩ | ⟨hB, b1, b2, b3⟩
    all_goals
      have HB := Lib.hid hB
      try rw [b3] at he
      clear hB
      try clear b3
      go_wp2_with fail
      go_meet
      exact ⟨by rw [HB.out], rfl⟩
  case rest =>
    obtain ⟨rfl, rfl⟩ := hcut
    obtain ⟨b, hB⟩ : ∃ b, bareP p = b := ⟨_, rfl⟩
    have HB := Lib.hid hB
    rw [hB]
    clear hB he
    have k4 := Hk4.out
    have F := Lib.hid (formOk_4 (cols := cols) k4)
    have d1 : (p.kind == 1) = false := by simp [k4]
    have d2 : (p.kind == 2) = false := by simp [k4]
    have d3 : (p.kind == 3) = false := by simp [k4]
    have d4 : (p.kind == 4) = true := by simp [k4]
    have d5 : (p.kind == 5) = false := by simp [k4]
    clear k4
    cases b
    · have F := Lib.hid (show formOk cols p = false by rw [F.out, HB.out]; rfl)
      have H := Lib.hid (cntV_no (cols := cols) (k := k + 1) (p := p) (by rw [deepOk, F.out]; rfl))
      go_wp2_with fail
      go_ret
      exact ⟨ret_int H.out.symm, hb0⟩
    · by_cases hz : 1 ≤ p.l.length
      · have hz0 : decide (1 ≤ (p.l.length : Int)) = true := decide_eq_true (by omega)
        have F := Lib.hid (show formOk cols p = true by rw [F.out, HB.out, inR_of (by omega) (by omega)]; rfl)
        clear hz
        have hbc := Below.refl W1.heap.size W1
        have hbW := hb0.trans (hbc.mono (by omega))
        go_wp2_with fail
        go_loopw [9, 105] (fun s i wr => ∃ q : Nat, i = .int .i64 q ∧ q ≤ p.l.length ∧ s = .int .i64 (1 + (cntP (p.l.take q) : Nat)) ∧ (p.l.take q).all (deepOk cols k) = true ∧ Below w.heap.size w wr) (fun _ i _ => p.l.length - (intOf i).toNat)
        case atStart => exact ⟨0, rfl, by omega, by simp [cntP_nil], by simp, hbW⟩
        case round =>
          obtain ⟨q, rfl, hq, rfl, hall, hb⟩ := hrel
          have Hall := Lib.hid hall
          clear hall
          have hbs := hb.size
          by_cases hql : q < p.l.length
          · obtain ⟨bx, off, x, sx, rfl, -, hbl, hxk, hat, hr⟩ := (hx.below hb hhi).at hql
            obtain ⟨As, cs, rfl, -, -⟩ := hr.form
            obtain ⟨e0, e1, e2, e3, e4, e5, e6⟩ := hat
            have hcn1 := (cntP_take hxk).1
            have hcn2 := (cntP_take hxk).2
            have HN := Lib.hid (fun h => deep_no (cols := cols) (k := k) hxk h)
            have HY := Lib.hid (fun h => all_step (f := deepOk cols k) hxk Hall.out h)
            have up := up_a1 wr (.cells #[.int .i64 x.kind, .int .i64 x.col, .int .i64 x.op, .int .i64 x.v.ty, .int .i64 x.v.n, .string x.v.s, .slice As x.l.length cs] 27)
            have hC := Lib.hid (IH.out x (d - 1) (by have := Hd.out; omega) (by omega) (HOk.out.get hxk) (by omega) (.slice As x.l.length cs) (wr.alloc (.cells #[.int .i64 x.kind, .int .i64 x.col, .int .i64 x.op, .int .i64 x.v.ty, .int .i64 x.v.n, .string x.v.s, .slice As x.l.length cs] 27)) lo hi l1 h1 (hr.below up (by omega)) (by simp; omega) ((hc.below hb hh1).below up (by omega)) (by simp; omega))
            have Up := Lib.hid up
            clear hxk hr up
            generalize hK : (1 + (cntP (p.l.take q) : Nat) : Int) = K
            cases hh : deepOk cols k x
            · rw [cntV_no hh] at hC
              have HN := Lib.hid (cntV_no (HN.out hh))
              clear hh
              go_wp2_with fail
              refine hC.out.mono ?_
              rintro e w1 ⟨rfl, hb1⟩
              go_wp2_with fail
              go_ret
              exact ⟨ret_int HN.out.symm, hb.trans ((Up.out.trans (hb1.mono Up.out.size)).mono hb.size)⟩
            · rw [cntV_yes hh] at hC
              have HY := Lib.hid (HY.out hh)
              clear hh
              have hn0 : decide ((1 + (cntP x.l : Nat) : Int) < 0) = false := decide_eq_false (by omega)
              generalize hM : (1 + (cntP x.l : Nat) : Int) = M at *
              have hwk : IntKind.i64.wrap (K + M) = K + M := IntWalk.i64_in _ ⟨by omega, by omega⟩
              have HK := Lib.hid hK
              have HM := Lib.hid hM
              clear hK hM
              go_wp2_with fail
              refine hC.out.mono ?_
              rintro e w1 ⟨rfl, hb1⟩
              go_wp2_with fail
              go_roundw
              case rel => exact ⟨q + 1, by go_num, by omega, congrArg (Value.int .i64) (by have := HK.out; have := HM.out; omega), HY.out, hb.trans ((Up.out.trans (hb1.mono Up.out.size)).mono hb.size)⟩
              case measure => simp [intOf]; omega
          · obtain rfl : q = p.l.length := by omega
            have H := Lib.hid (cntV_yes (cols := cols) (k := k + 1) (p := p) (by rw [deep_end Hall.out, F.out]))
            rw [List.take_length]
            go_wp2_with fail
            go_ret
            exact ⟨ret_int H.out.symm, hb⟩
      · have hz0 : decide (1 ≤ (p.l.length : Int)) = false := decide_eq_false (by omega)
        have F := Lib.hid (show formOk cols p = false by rw [F.out, HB.out, inR_not (by omega)]; rfl)
        clear hz
        have H := Lib.hid (cntV_no (cols := cols) (k := k + 1) (p := p) (by rw [deepOk, F.out]; rfl))
        go_wp2_with fail
        go_ret
        exact ⟨ret_int H.out.symm, hb0⟩
end Go.Proofs.YtjogkbkkcaljhaaGreatDoor
namespace Go.Proofs.YtjogkbkkcaljhaaGreatDoor
open Go.Sort Go.ChangeShapes Go.WideShapes Go.ChangeAt Go.RowKit Go.Lb
set_option maxRecDepth 20000 in
set_option maxHeartbeats 8000000 in
theorem cnt_k2 (cols : List Int) (cv : Value) (k : Nat) (IHc : ∀ p, CntC cols cv k p) (p : P) (k2 : p.kind = 2) : CntC cols cv (k + 1) p := by
  have Hk2 := Lib.hid k2
  clear k2
  intro d hd hk4 hok hcn
  have IH := Lib.hid IHc
  have Hd := Lib.hid hd
  intro sv w lo hi l1 h1 hx hhi hc hh1
  obtain ⟨A, c, rfl, hl, hl2⟩ := hx.form
  obtain ⟨Ac, cc, rfl, hcl, hcl2⟩ := hc.form
  have hb0 := up_a1 w (.cells #[.int .i64 p.kind, .int .i64 p.col, .int .i64 p.op, .int .i64 p.v.ty, .int .i64 p.v.n, .string p.v.s, .slice A p.l.length c] 27)
  have Hcb := Lib.hid (heap_alloc_new w (.cells #[.int .i64 p.kind, .int .i64 p.col, .int .i64 p.op, .int .i64 p.v.ty, .int .i64 p.v.n, .string p.v.s, .slice A p.l.length c] 27))
  have hs0 : (w.alloc (.cells #[.int .i64 p.kind, .int .i64 p.col, .int .i64 p.op, .int .i64 p.v.ty, .int .i64 p.v.n, .string p.v.s, .slice A p.l.length c] 27)).heap.size = w.heap.size + 1 := by simp
  have hlt : decide (d < 1) = false := decide_eq_false (by omega)
  have hwd : IntKind.i64.wrap (d - 1) = d - 1 := IntWalk.i64_in _ ⟨by omega, by omega⟩
  have hwc : IntKind.i64.wrap ((cols.length : Int) - 1) = (cols.length : Int) - 1 := IntWalk.i64_in _ ⟨by omega, by omega⟩
  clear hd
  have HOk := Lib.hid hok.2
  have he := eql_zero p.v
  have hgd := guard_V
  by_cases hl4 : 4 < p.l.length
  · have hdl : decide (4 < (p.l.length : Int)) = true := decide_eq_true (by omega)
    have H := Lib.hid (cntV_no (cols := cols) (k := k + 1) (p := p) (by
      cases h : deepOk cols (k + 1) p
      · rfl
      · simp only [deepOk, Bool.and_eq_true] at h
        have := formOk_len h.1
        omega))
    clear hl4
    go_enter Tryz.func46, Tryz.ntmps46
    go_wp2_with fail
    go_ret
    exact ⟨ret_int H.out.symm, hb0⟩
  have hdl : decide (4 < (p.l.length : Int)) = false := decide_eq_false (by omega)
  go_enter Tryz.func46, Tryz.ntmps46
  go_upto_region 3 with fail
  generalize (w.alloc (.cells #[.int .i64 p.kind, .int .i64 p.col, .int .i64 p.op, .int .i64 p.v.ty, .int .i64 p.v.n, .string p.v.s, .slice A p.l.length c] 27)) = W1 at *
  have q0 := cell_of_row W1 _ 0 _ _ _ Hcb.out
  have q1 := cell_of_row W1 _ 1 _ _ _ Hcb.out
  have q2 := cell_of_row W1 _ 2 _ _ _ Hcb.out
  have q3 := cell_of_row W1 _ 3 _ _ _ Hcb.out
  have q4 := cell_of_row W1 _ 4 _ _ _ Hcb.out
  have q5 := cell_of_row W1 _ 5 _ _ _ Hcb.out
  have q6 := cell_of_row W1 _ 6 _ _ _ Hcb.out
  simp only [List.getElem?_toArray, List.getElem?_cons_zero, List.getElem?_cons_succ] at q0 q1 q2 q3 q4 q5 q6
  go_cut [7] from 21 to 34 (fun s wx => s = .bool (bareP p) ∧ W1 = wx)
  case first =>
    rcases bare_cases p with ⟨hB, b1⟩ | ⟨hB, b1, b2⟩ | ⟨hB, b1, b2, b3⟩ | ⟨hB, b1, b2, b3⟩
    all_goals
      have HB := Lib.hid hB
      try rw [b3] at he
      clear hB
      try clear b3
      go_wp2_with fail
      go_meet
      exact ⟨by rw [HB.out], rfl⟩
  case rest =>
    obtain ⟨rfl, rfl⟩ := hcut
    obtain ⟨b, hB⟩ : ∃ b, bareP p = b := ⟨_, rfl⟩
    have HB := Lib.hid hB
    rw [hB]
    clear hB he
    have k2 := Hk2.out
    have F := Lib.hid (formOk_2 (cols := cols) k2)
    have d1 : (p.kind == 1) = false := by simp [k2]
    have d2 : (p.kind == 2) = true := by simp [k2]
    have d3 : (p.kind == 3) = false := by simp [k2]
    have d4 : (p.kind == 4) = false := by simp [k2]
    have d5 : (p.kind == 5) = false := by simp [k2]
    clear k2 HB
    generalize hcol : p.col = col at *
    cases hI : inR col 0 ((cols.length : Int) - 1)
    · have cI := Lib.hid (fun W => (c_impl_within col 0 ((cols.length : Int) - 1) W).mono fun e w' h => (⟨hI ▸ h.1, h.2⟩ : e = .returned (.bool false) ∧ _))
      have F2 := Lib.hid (show formOk cols p = false by rw [F.out, cmpOk_out hI])
      have H := Lib.hid (cntV_no (cols := cols) (k := k + 1) (p := p) (by rw [deepOk, F2.out]; rfl))
      go_wp2_with fail
      have q_0 := cell_regrown (w := W1) q1
      refine wp_region_quiet_below (by kernel_rfl) (by kernel_rfl) ?_
      repeat (go_big_quiet_step (first | (go_at_call 45; with_reducible exact Calls.regrown_of (cI.out _))))
      refine wpQuiet_nil ?_
      intro wq hw'
      obtain ⟨⟨dq, osq⟩, hw''⟩ := hw'
      have hbq := below_regrown W1 dq osq
      rw [← hw''] at hbq
      clear hw''
      clear q_0
      go_wp2_with fail
      go_ret
      exact ⟨ret_int H.out.symm, hb0.trans (hbq.mono (by omega))⟩
    · obtain ⟨j0, j1⟩ := inR_yes hI
      have cI := Lib.hid (fun W => (c_impl_within col 0 ((cols.length : Int) - 1) W).mono fun e w' h => (⟨hI ▸ h.1, h.2⟩ : e = .returned (.bool true) ∧ _))
      obtain ⟨j, rfl⟩ : ∃ j : Nat, col = (j : Int) := ⟨col.toNat, by omega⟩
      have hjl : j < cols.length := by omega
      obtain ⟨bc, offc, ct, rfl, -, hbc, hck, c0⟩ := (hc.below hb0 hh1).at hjl
      have F := Lib.hid (F.out.trans (cmpOk_at hck))
      clear hck j0 j1
      cases hO : inR p.op 1 6
      · have cO := Lib.hid (fun W => (c_impl_within p.op 1 6 W).mono fun e w' h => (⟨hO ▸ h.1, h.2⟩ : e = .returned (.bool false) ∧ _))
        have F2 := Lib.hid (show formOk cols p = false by rw [F.out, hO]; simp)
        have H := Lib.hid (cntV_no (cols := cols) (k := k + 1) (p := p) (by rw [deepOk, F2.out]; rfl))
        go_wp2_with fail
        have q_0 := cell_regrown (w := W1) q1
        have q_1 := cell_regrown (w := W1) q2
        have q_2 := cell_regrown (w := W1) q3
        have q_3 := cell_regrown (w := W1) q4
        have q_4 := cell_regrown (w := W1) q5
        have q_5 := cell_regrown (w := W1) c0
        refine wp_region_quiet_below (by kernel_rfl) (by kernel_rfl) ?_
        repeat (go_big_quiet_step (first | (go_at_call 45; with_reducible exact Calls.regrown_of (cI.out _)) | (go_at_call 45; with_reducible exact Calls.regrown_of (cO.out _))))
        refine wpQuiet_nil ?_
        intro wq hw'
        obtain ⟨⟨dq, osq⟩, hw''⟩ := hw'
        have hbq := below_regrown W1 dq osq
        rw [← hw''] at hbq
        clear hw''
        clear q_0 q_1 q_2 q_3 q_4 q_5
        go_wp2_with fail
        go_ret
        exact ⟨ret_int H.out.symm, hb0.trans (hbq.mono (by omega))⟩
      have cO := Lib.hid (fun W => (c_impl_within p.op 1 6 W).mono fun e w' h => (⟨hO ▸ h.1, h.2⟩ : e = .returned (.bool true) ∧ _))
      cases hV : valOk p.v
      · have cV := Lib.hid (fun W => (impl_ValOk p.v W hok.1).mono fun e w' h => (⟨hV ▸ h.1, h.2⟩ : e = .returned (.bool false) ∧ _))
        have F2 := Lib.hid (show formOk cols p = false by rw [F.out, hV]; simp)
        have H := Lib.hid (cntV_no (cols := cols) (k := k + 1) (p := p) (by rw [deepOk, F2.out]; rfl))
        go_wp2_with fail
        have q_0 := cell_regrown (w := W1) q1
        have q_1 := cell_regrown (w := W1) q2
        have q_2 := cell_regrown (w := W1) q3
        have q_3 := cell_regrown (w := W1) q4
        have q_4 := cell_regrown (w := W1) q5
        have q_5 := cell_regrown (w := W1) c0
        refine wp_region_quiet_below (by kernel_rfl) (by kernel_rfl) ?_
        repeat (go_big_quiet_step (first | (go_at_call 45; with_reducible exact Calls.regrown_of (cI.out _)) | (go_at_call 45; with_reducible exact Calls.regrown_of (cO.out _)) | (go_at_call 64; with_reducible exact Calls.regrown_of (cV.out _))))
        refine wpQuiet_nil ?_
        intro wq hw'
        obtain ⟨⟨dq, osq⟩, hw''⟩ := hw'
        have hbq := below_regrown W1 dq osq
        rw [← hw''] at hbq
        clear hw''
        clear q_0 q_1 q_2 q_3 q_4 q_5
        go_wp2_with fail
        go_ret
        exact ⟨ret_int H.out.symm, hb0.trans (hbq.mono (by omega))⟩
      have cV := Lib.hid (fun W => (impl_ValOk p.v W hok.1).mono fun e w' h => (⟨hV ▸ h.1, h.2⟩ : e = .returned (.bool true) ∧ _))
      cases hT : (p.v.ty == ct)
      · skip
        have F2 := Lib.hid (show formOk cols p = false by rw [F.out, hT]; simp)
        have H := Lib.hid (cntV_no (cols := cols) (k := k + 1) (p := p) (by rw [deepOk, F2.out]; rfl))
        go_wp2_with fail
        have q_0 := cell_regrown (w := W1) q1
        have q_1 := cell_regrown (w := W1) q2
        have q_2 := cell_regrown (w := W1) q3
        have q_3 := cell_regrown (w := W1) q4
        have q_4 := cell_regrown (w := W1) q5
        have q_5 := cell_regrown (w := W1) c0
        refine wp_region_quiet_below (by kernel_rfl) (by kernel_rfl) ?_
        repeat (go_big_quiet_step (first | (go_at_call 45; with_reducible exact Calls.regrown_of (cI.out _)) | (go_at_call 45; with_reducible exact Calls.regrown_of (cO.out _)) | (go_at_call 64; with_reducible exact Calls.regrown_of (cV.out _))))
        refine wpQuiet_nil ?_
        intro wq hw'
        obtain ⟨⟨dq, osq⟩, hw''⟩ := hw'
        have hbq := below_regrown W1 dq osq
        rw [← hw''] at hbq
        clear hw''
        clear q_0 q_1 q_2 q_3 q_4 q_5
        go_wp2_with fail
        go_ret
        exact ⟨ret_int H.out.symm, hb0.trans (hbq.mono (by omega))⟩
      by_cases hz : p.l.length = 0
      · have hz0 : ((p.l.length : Int) == 0) = true := by rw [hz]; rfl
        have F := Lib.hid (show formOk cols p = true by rw [F.out, hV, hT, hO, hz]; rfl)
        have Hz := Lib.hid hz
        clear hz
        go_wp2_with fail
        have q_0 := cell_regrown (w := W1) q1
        have q_1 := cell_regrown (w := W1) q2
        have q_2 := cell_regrown (w := W1) q3
        have q_3 := cell_regrown (w := W1) q4
        have q_4 := cell_regrown (w := W1) q5
        have q_5 := cell_regrown (w := W1) q6
        have q_6 := cell_regrown (w := W1) c0
        refine wp_region_quiet_below (by kernel_rfl) (by kernel_rfl) ?_
        repeat (go_big_quiet_step (first | (go_at_call 45; with_reducible exact Calls.regrown_of (cI.out _)) | (go_at_call 45; with_reducible exact Calls.regrown_of (cO.out _)) | (go_at_call 64; with_reducible exact Calls.regrown_of (cV.out _))))
        refine wpQuiet_nil ?_
        intro wq hw'
        obtain ⟨⟨dq, osq⟩, hw''⟩ := hw'
        have hbq := below_regrown W1 dq osq
        rw [← hw''] at hbq
        clear hw''
        clear q_0 q_1 q_2 q_3 q_4 q_5 q_6
        rename World => w2
        clear hI hO hV hT c0 cI cO cV
        have hbc := hbq
        clear q0 q1 q2 q3 q4 q5 q6
        have q6 := cell_of_row w2 _ 6 _ _ _ ((hbc.block _ (by omega)).trans Hcb.out)
        simp only [List.getElem?_toArray, List.getElem?_cons_zero, List.getElem?_cons_succ] at q6
        have hbW := hb0.trans (hbc.mono (by omega))
        go_wp2_with fail
        go_loopw [9, 105] (fun s i wr => ∃ q : Nat, i = .int .i64 q ∧ q ≤ p.l.length ∧ s = .int .i64 (1 + (cntP (p.l.take q) : Nat)) ∧ (p.l.take q).all (deepOk cols k) = true ∧ Below w.heap.size w wr) (fun _ i _ => p.l.length - (intOf i).toNat)
        case atStart => exact ⟨0, rfl, by omega, by simp [cntP_nil], by simp, hbW⟩
        case round =>
          obtain ⟨q, rfl, hq, rfl, hall, hb⟩ := hrel
          have Hall := Lib.hid hall
          clear hall
          have hbs := hb.size
          by_cases hql : q < p.l.length
          · exact absurd hql (by have := Hz.out; omega)
          · obtain rfl : q = p.l.length := by omega
            have H := Lib.hid (cntV_yes (cols := cols) (k := k + 1) (p := p) (by rw [deep_end Hall.out, F.out]))
            rw [List.take_length]
            go_wp2_with fail
            go_ret
            exact ⟨ret_int H.out.symm, hb⟩
      · have hz0 : ((p.l.length : Int) == 0) = false := beq_eq_false_iff_ne.2 (by omega)
        have F2 := Lib.hid (show formOk cols p = false by rw [F.out, decide_eq_false hz]; simp)
        have H := Lib.hid (cntV_no (cols := cols) (k := k + 1) (p := p) (by rw [deepOk, F2.out]; rfl))
        clear hz
        go_wp2_with fail
        have q_0 := cell_regrown (w := W1) q1
        have q_1 := cell_regrown (w := W1) q2
        have q_2 := cell_regrown (w := W1) q3
        have q_3 := cell_regrown (w := W1) q4
        have q_4 := cell_regrown (w := W1) q5
        have q_5 := cell_regrown (w := W1) q6
        have q_6 := cell_regrown (w := W1) c0
        refine wp_region_quiet_below (by kernel_rfl) (by kernel_rfl) ?_
        repeat (go_big_quiet_step (first | (go_at_call 45; with_reducible exact Calls.regrown_of (cI.out _)) | (go_at_call 45; with_reducible exact Calls.regrown_of (cO.out _)) | (go_at_call 64; with_reducible exact Calls.regrown_of (cV.out _))))
        refine wpQuiet_nil ?_
        intro wq hw'
        obtain ⟨⟨dq, osq⟩, hw''⟩ := hw'
        have hbq := below_regrown W1 dq osq
        rw [← hw''] at hbq
        clear hw''
        clear q_0 q_1 q_2 q_3 q_4 q_5 q_6
        go_wp2_with fail
        go_ret
        exact ⟨ret_int H.out.symm, hb0.trans (hbq.mono (by omega))⟩
end Go.Proofs.YtjogkbkkcaljhaaGreatDoor
namespace Go.Proofs.YtjogkbkkcaljhaaGreatDoor
open Go.Sort Go.ChangeShapes Go.WideShapes Go.ChangeAt Go.RowKit Go.Lb
theorem impl_cnt (cols : List Int) (cv : Value) : ∀ (k : Nat) (p : P), CntC cols cv k p
  | 0, p => cnt_0 cols cv p
  | k + 1, p => by
    have IH := impl_cnt cols cv k
    by_cases k1 : p.kind = 1
    · exact cnt_k1 cols cv k IH p k1
    by_cases k5 : p.kind = 5
    · exact cnt_k5 cols cv k IH p k5
    by_cases k3 : p.kind = 3
    · exact cnt_k3 cols cv k IH p k3
    by_cases k4 : p.kind = 4
    · exact cnt_k4 cols cv k IH p k4
    by_cases k2 : p.kind = 2
    · exact cnt_k2 cols cv k IH p k2
    exact cnt_no cols cv k IH p k1 k2 k3 k4 k5
theorem impl_count (cols : List Int) (cv : Value) (k : Nat) (p : P) (d : Int) (hd : d = (k : Int)) (hk : k ≤ 4) (hok : POk p) (hn : cntP p.l ≤ 1048576) (sv : Value) (w : World) (lo hi l1 h1 : Nat) (hx : RdP w lo hi sv p.l) (hhi : hi ≤ w.heap.size) (hc : RdI w l1 h1 cv cols) (hh1 : h1 ≤ w.heap.size) :
    Calls Tryz.prog 46 #[cv, .agg #[.int .i64 p.kind, .int .i64 p.col, .int .i64 p.op, .int .i64 p.v.ty, .int .i64 p.v.n, .string p.v.s, sv], .int .i64 d] w fun e w' => e = .returned (.int .i64 (cntV cols k p)) ∧ Below w.heap.size w w' :=
  impl_cnt cols cv k p d hd hk hok hn sv w lo hi l1 h1 hx hhi hc hh1
end Go.Proofs.YtjogkbkkcaljhaaGreatDoor
namespace Go.Proofs.YtjogkbkkcaljhaaGreatDoor
open Go.RowKit Go.Lb
def predOk (cols : List Int) (p : P) : Bool := colsOk cols && (deepOk cols 4 p && decide ((1 + (cntP p.l : Nat) : Int) ≤ 8))
theorem inR_cntV (cols : List Int) (p : P) : inR (cntV cols 4 p) 1 8 = (deepOk cols 4 p && decide ((1 + (cntP p.l : Nat) : Int) ≤ 8)) := by
  cases h : deepOk cols 4 p
  · rw [cntV_no h]; rfl
  · rw [cntV_yes h]
    simp only [inR, Bool.true_and]
    rw [decide_eq_true (show (1 : Int) ≤ 1 + (cntP p.l : Nat) by omega)]
    rfl
end Go.Proofs.YtjogkbkkcaljhaaGreatDoor
namespace Go.Proofs.YtjogkbkkcaljhaaGreatDoor
open Go.Sort Go.ChangeShapes Go.WideShapes Go.ChangeAt Go.RowKit Go.Lb

set_option maxRecDepth 20000 in
set_option maxHeartbeats 4000000 in
theorem spec_PredOk (cols : List Int) (cv : Value) (p : P) (sv : Value) (w : World) {lo hi l1 h1 : Nat} (hc : RdI w l1 h1 cv cols) (hh1 : h1 ≤ w.heap.size) (hx : RdP w lo hi sv p.l) (hhi : hi ≤ w.heap.size) (hok : POk p) (hn : cntP p.l ≤ 1048576) :
    Calls Tryz.prog 21 #[cv, .agg #[.int .i64 p.kind, .int .i64 p.col, .int .i64 p.op, .int .i64 p.v.ty, .int .i64 p.v.n, .string p.v.s, sv]] w fun e w' => e = .returned (.bool (predOk cols p)) ∧ Below w.heap.size w w' := by
  have hb0 := up_a1 w (.cells #[.int .i64 p.kind, .int .i64 p.col, .int .i64 p.op, .int .i64 p.v.ty, .int .i64 p.v.n, .string p.v.s, sv] 27)
  have Hcb := Lib.hid (heap_alloc_new w (.cells #[.int .i64 p.kind, .int .i64 p.col, .int .i64 p.op, .int .i64 p.v.ty, .int .i64 p.v.n, .string p.v.s, sv] 27))
  have hs0 : (w.alloc (.cells #[.int .i64 p.kind, .int .i64 p.col, .int .i64 p.op, .int .i64 p.v.ty, .int .i64 p.v.n, .string p.v.s, sv] 27)).heap.size = w.heap.size + 1 := by simp
  have hxW := hx.below hb0 hhi
  have hcW := hc.below hb0 hh1
  go_enter Tryz.func21, Tryz.ntmps21
  go_wp2_with fail
  generalize (w.alloc (.cells #[.int .i64 p.kind, .int .i64 p.col, .int .i64 p.op, .int .i64 p.v.ty, .int .i64 p.v.n, .string p.v.s, sv] 27)) = W1 at *
  refine (spec_ColsOk cols cv W1 hcW (by omega)).mono ?_
  rintro e w1 ⟨rfl, rfl⟩
  have q0 := cell_of_row W1 _ 0 _ _ _ Hcb.out
  have q1 := cell_of_row W1 _ 1 _ _ _ Hcb.out
  have q2 := cell_of_row W1 _ 2 _ _ _ Hcb.out
  have q3 := cell_of_row W1 _ 3 _ _ _ Hcb.out
  have q4 := cell_of_row W1 _ 4 _ _ _ Hcb.out
  have q5 := cell_of_row W1 _ 5 _ _ _ Hcb.out
  have q6 := cell_of_row W1 _ 6 _ _ _ Hcb.out
  simp only [List.getElem?_toArray, List.getElem?_cons_zero, List.getElem?_cons_succ] at q0 q1 q2 q3 q4 q5 q6
  cases hC : colsOk cols
  · have H := Lib.hid (show predOk cols p = false by rw [predOk, hC]; rfl)
    clear hC
    go_wp2_with fail
    go_ret
    exact ⟨ret_bool H.out.symm, hb0⟩
  · have C2 := Lib.hid (spec_l11Deep cols cv 4 p 1 (by decide) (by decide) hok sv W1 lo hi l1 h1 hxW (by omega) hcW (by omega))
    go_wp2_with fail
    refine C2.out.mono ?_
    rintro e w2 ⟨rfl, hb2⟩
    have Hq := Lib.hid ((hb2.block _ (by omega)).trans Hcb.out)
    clear q0 q1 q2 q3 q4 q5 q6
    have q0 := cell_of_row w2 _ 0 _ _ _ Hq.out
    have q1 := cell_of_row w2 _ 1 _ _ _ Hq.out
    have q2 := cell_of_row w2 _ 2 _ _ _ Hq.out
    have q3 := cell_of_row w2 _ 3 _ _ _ Hq.out
    have q4 := cell_of_row w2 _ 4 _ _ _ Hq.out
    have q5 := cell_of_row w2 _ 5 _ _ _ Hq.out
    have q6 := cell_of_row w2 _ 6 _ _ _ Hq.out
    simp only [List.getElem?_toArray, List.getElem?_cons_zero, List.getElem?_cons_succ] at q0 q1 q2 q3 q4 q5 q6
    cases hD : deepOk cols 4 p
    · have H := Lib.hid (show predOk cols p = false by rw [predOk, hC, hD]; rfl)
      clear hC hD
      go_wp2_with fail
      go_ret
      exact ⟨ret_bool H.out.symm, hb0.trans (hb2.mono (by omega))⟩
    · have H := Lib.hid (show predOk cols p = decide ((1 + (cntP p.l : Nat) : Int) ≤ 8) by rw [predOk, hC, hD]; rfl)
      clear hC hD
      have hz2 := hb2.size
      have C3 := Lib.hid (spec_Count_n (SizeOf.sizeOf p + 1) p (Nat.lt_succ_self _) hn sv w2 lo hi (hxW.below hb2 (by omega)) (by omega))
      generalize hM : (1 + (cntP p.l : Nat) : Int) = M at *
      clear hM
      go_wp2_with fail
      refine C3.out.mono ?_
      rintro e w3 ⟨rfl, hb3⟩
      go_wp2_with fail
      go_ret
      exact ⟨ret_bool H.out.symm, hb0.trans ((hb2.trans (hb3.mono hb2.size)).mono (by omega))⟩
set_option maxRecDepth 20000 in
set_option maxHeartbeats 4000000 in
theorem impl_PredOk (cols : List Int) (cv : Value) (p : P) (sv : Value) (w : World) {lo hi l1 h1 : Nat} (hc : RdI w l1 h1 cv cols) (hh1 : h1 ≤ w.heap.size) (hx : RdP w lo hi sv p.l) (hhi : hi ≤ w.heap.size) (hok : POk p) (hn : cntP p.l ≤ 1048576) :
    Calls Tryz.prog 20 #[cv, .agg #[.int .i64 p.kind, .int .i64 p.col, .int .i64 p.op, .int .i64 p.v.ty, .int .i64 p.v.n, .string p.v.s, sv]] w fun e w' => e = .returned (.bool (predOk cols p)) ∧ Below w.heap.size w w' := by
  have hb0 := up_a1 w (.cells #[.int .i64 p.kind, .int .i64 p.col, .int .i64 p.op, .int .i64 p.v.ty, .int .i64 p.v.n, .string p.v.s, sv] 27)
  have Hcb := Lib.hid (heap_alloc_new w (.cells #[.int .i64 p.kind, .int .i64 p.col, .int .i64 p.op, .int .i64 p.v.ty, .int .i64 p.v.n, .string p.v.s, sv] 27))
  have hs0 : (w.alloc (.cells #[.int .i64 p.kind, .int .i64 p.col, .int .i64 p.op, .int .i64 p.v.ty, .int .i64 p.v.n, .string p.v.s, sv] 27)).heap.size = w.heap.size + 1 := by simp
  have hxW := hx.below hb0 hhi
  have hcW := hc.below hb0 hh1
  go_enter Tryz.func20, Tryz.ntmps20
  go_wp2_with fail
  generalize (w.alloc (.cells #[.int .i64 p.kind, .int .i64 p.col, .int .i64 p.op, .int .i64 p.v.ty, .int .i64 p.v.n, .string p.v.s, sv] 27)) = W1 at *
  refine (impl_ColsOk cols cv W1 hcW (by omega)).mono ?_
  rintro e w1 ⟨rfl, rfl⟩
  have q0 := cell_of_row W1 _ 0 _ _ _ Hcb.out
  have q1 := cell_of_row W1 _ 1 _ _ _ Hcb.out
  have q2 := cell_of_row W1 _ 2 _ _ _ Hcb.out
  have q3 := cell_of_row W1 _ 3 _ _ _ Hcb.out
  have q4 := cell_of_row W1 _ 4 _ _ _ Hcb.out
  have q5 := cell_of_row W1 _ 5 _ _ _ Hcb.out
  have q6 := cell_of_row W1 _ 6 _ _ _ Hcb.out
  simp only [List.getElem?_toArray, List.getElem?_cons_zero, List.getElem?_cons_succ] at q0 q1 q2 q3 q4 q5 q6
  cases hC : colsOk cols
  · have H := Lib.hid (show predOk cols p = false by rw [predOk, hC]; rfl)
    clear hC
    go_wp2_with fail
    go_ret
    exact ⟨ret_bool H.out.symm, hb0⟩
  · have C2 := Lib.hid (impl_count cols cv 4 p 4 rfl (by decide) hok hn sv W1 lo hi l1 h1 hxW (by omega) hcW (by omega))
    have H := Lib.hid (show predOk cols p = inR (cntV cols 4 p) 1 8 by rw [predOk, hC, inR_cntV]; rfl)
    clear hC
    go_wp2_with fail
    refine C2.out.mono ?_
    rintro e w2 ⟨rfl, hb2⟩
    go_wp2_with fail
    refine (q_impl_within _ _ _ _).mono ?_
    rintro e w3 ⟨rfl, rfl⟩
    go_wp2_with fail
    go_ret
    exact ⟨ret_bool H.out.symm, hb0.trans (hb2.mono (by omega))⟩
end Go.Proofs.YtjogkbkkcaljhaaGreatDoor
